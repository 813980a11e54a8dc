/- msg.Keyed, msg.PutReply, msg.GetReply. -/
import Derived.Test.YtanjkhdagegapaaG4
import Derived.Lib.Bytealg
import Derived.Laws.Externs
import Derived.Deep.RegionHeld3
namespace Go.Proofs.Ytanjkhdagegapaa.Ext
open Go.RowKit Go.MapKept Go.Shelf Go.Proofs.YtanjkhdagegapaaW.PrintWords Go.Proofs.YtanjkhdagegapaaW.PrintLast Go.Proofs.YtanjkhdagegapaaW.PrintMore Go.Proofs.YtanjkhdagegapaaW.Hand Go.Proofs.Ytanjkhdagegapaa.PZ
set_option linter.unusedVariables false
set_option linter.unusedSimpArgs false
set_option maxRecDepth 100000 in
theorem ib_calls (s : ByteArray) (c : Int) (w : World) : Calls Try.prog 100 #[.string s, .int .u8 c] w fun e w' => e = .returned (.int .i64 (Lib.indexByte s.data.toList c.toNat.toUInt8)) ∧ w' = w := by
  go_enter Try.func100, Try.ntmps100
  go_wp2
  rw [run_callFunc_extern Try.func101 (by kernel_rfl) (by kernel_rfl) (by kernel_rfl) (e := Extern.BytealgIndexByte.indexByte) (by kernel_rfl), Lib.run_indexByteString]
  simp only [Result.andThen]
  rw [Oper.upon_value]
  go_wp2
  go_ret
  exact ⟨rfl, rfl⟩
set_option maxRecDepth 100000 in
theorem sib_calls (s : ByteArray) (c : Int) (w : World) : Calls Try.prog 84 #[.string s, .int .u8 c] w fun e w' => e = .returned (.int .i64 (Lib.indexByte s.data.toList c.toNat.toUInt8)) ∧ w' = w := by
  go_enter Try.func84, Try.ntmps84
  go_wp2_with (go_at_call 100; (with_reducible refine (ib_calls _ _ _).mono ?_); rintro e w1 ⟨rfl, rfl⟩)
  go_ret
  exact ⟨rfl, rfl⟩
set_option maxRecDepth 100000 in
theorem ir_calls (s : ByteArray) (w : World) : Calls Try.prog 57 #[.string s, .int .i32 107] w fun e w' => e = .returned (.int .i64 (Lib.indexByte s.data.toList 107)) ∧ w' = w := by
  go_enter Try.func57, Try.ntmps57
  go_wp2_with (go_at_call 84; (with_reducible refine (sib_calls _ _ _).mono ?_); rintro e w1 ⟨rfl, rfl⟩)
  go_ret
  exact ⟨rfl, rfl⟩
set_option maxRecDepth 100000 in
theorem cr_calls (s : ByteArray) (w : World) : Calls Try.prog 32 #[.string s, .int .i32 107] w fun e w' => e = .returned (.bool (decide (0 ≤ Lib.indexByte s.data.toList 107))) ∧ w' = w := by
  go_enter Try.func32, Try.ntmps32
  go_wp2_with (go_at_call 57; (with_reducible refine (ir_calls _ _).mono ?_); rintro e w1 ⟨rfl, rfl⟩)
  go_ret
  exact ⟨rfl, rfl⟩
def keyedB (k : Int) : Bool := decide (0 ≤ Lib.indexByte (signsOf k).data.toList 107)
set_option maxRecDepth 100000 in
theorem Keyed_go (k : Int) (w : World) : Calls Try.prog 15 #[.int .u8 k] w fun e w' => e = .returned (.bool (keyedB k)) ∧ Below w.heap.size w w' := by
  have hlk := kinds_look (w.alloc (.map (kE 16) 16)) w.heap.size k false (heap_new w _)
  rw [if_neg (by decide)] at hlk
  go_enter Try.func15, Try.ntmps15
  go_wp2_with (first
    | (go_at_call 22; (with_reducible refine (kinds_calls _).mono ?_); rintro e w9 ⟨rfl, rfl⟩)
    | (go_at_call 32; (with_reducible refine (cr_calls _ _).mono ?_); rintro e w1 ⟨rfl, rfl⟩))
  go_ret
  exact ⟨rfl, below_alloc (Below.refl _ _) _⟩
/-! ### replies -/
theorem below_drewN_refl (W : World) : Below W.heap.size W W := Below.refl _ _
theorem text_at (A : Option Addr) (c : Nat) (l : List Int) (A2 : Option Addr) (c2 : Nat) (s : List Int) {nb : Nat} (hnb : s.length = nb) (w : World) (hr : Kd.C (Kd.int .u8) w A l.length l) (hr2 : Kd.C (Kd.int .u8) w A2 s.length s) (hl : l.length + s.length ≤ 140737488355000) :
    Calls Try.prog 45 #[.slice A l.length c, .slice A2 nb c2] w fun e w' => ∃ v0 : Value, e = .returned v0 ∧ Kd.R (Kd.int .u8) 5 w' w.heap.size (fun _ => True) v0 (l ++ beN 4 s.length ++ s) ∧ Below w.heap.size w w' := by
  subst hnb
  exact Text_any A c l A2 c2 s w hr hr2 hl
/-- A reply's bytes. -/
def rplB (e d n m : Int) (t : ByteArray) : List Int := beN 8 (e % top64) ++ beN 8 d ++ beN 8 (n % top64) ++ beN 8 (m % top64) ++ beN 4 (bytesOf t).length ++ bytesOf t
set_option maxRecDepth 100000 in
set_option maxHeartbeats 6400000 in
theorem PutReply_go (e d n m : Int) (t : ByteArray) (w : World) (hd0 : 0 ≤ d) (hd1 : d < 4294967296) (ht : t.size ≤ 1000000) :
    Calls Try.prog 20 #[.agg #[.int .i64 e, .int .u32 d, .int .i64 n, .int .i64 m, .string t]] w fun r w' => ∃ v : Value, r = .returned v ∧ Kd.R (Kd.int .u8) 5 w' w.heap.size (fun _ => True) v (rplB e d n m t) ∧ Below w.heap.size w w' := by
  have HL := Aside0.mk (below_alloc (Below.refl _ w) (.cells #[.int .i64 e, .int .u32 d, .int .i64 n, .int .i64 m, .string t] 42))
  have HQ := Aside0.mk (Blk.new_ (W := w) (o := .cells #[.int .i64 e, .int .u32 d, .int .i64 n, .int .i64 m, .string t] 42))
  have wd : IntKind.u64.wrap d = d := by rw [IntKind.wrap_u64]; omega
  have hd2 : d < top64 := by unfold top64; omega
  have q0 : (w.alloc (.cells #[.int .i64 e, .int .u32 d, .int .i64 n, .int .i64 m, .string t] 42)).drew.cell? ⟨w.heap.size, 0, none⟩ = some (.int .i64 e) := HQ.out.cell 0
  have q1 : (w.alloc (.cells #[.int .i64 e, .int .u32 d, .int .i64 n, .int .i64 m, .string t] 42)).drew.cell? ⟨w.heap.size, 1, none⟩ = some (.int .u32 d) := HQ.out.cell 1
  have KI := Aside0.mk (Int_any none 0 [] e _ (Kd.C_nil (Kd.int .u8) (w.alloc (.cells #[.int .i64 e, .int .u32 d, .int .i64 n, .int .i64 m, .string t] 42)).drew) (by simp))
  simp only [List.length_nil, List.nil_append] at KI
  go_enter Try.func20, Try.ntmps20
  go_wp2_with fail
  refine wp_region_noPanic ?_
  refine wp_region_held_drew (S := fun w' : World => w'.cell? ⟨w.heap.size, 0, none⟩ = some (.int .i64 e) ∧ w'.cell? ⟨w.heap.size, 1, none⟩ = some (.int .u32 d)) (by kernel_rfl) ?_ (fun hHeld => ?_)
  · exact ⟨q0, q1⟩
  refine wpAnyH_take (i := 0) (oi := { dst := some 4, op := Go.Op.fieldAddr 42 (Go.Operand.tmp 1) 0, type := 0, pos := "msg.go:153", after := #[], guard := none }) (v := ?vra0) rfl (by kernel_rfl) (by kernel_rfl) (by kernel_rfl) (fun _ _ _ h => h) (Or.inl ⟨by rfl, ?hyra0⟩) hHeld ?restra0
  case hyra0 => (intro w hSw; (try dsimp only at hSw); go_simp <;> with_reducible rfl)
  try simp only [Act.put, List.setIfInBounds_toArray, List.set_cons_zero, List.set_cons_succ]
  refine wpAnyH_take (i := 1) (oi := { dst := some 5, op := Go.Op.load 30 (Go.Operand.tmp 4), type := 30, pos := "msg.go:153", after := #[{ on := 0, ground := Go.Ground.data }], guard := none }) (v := ?vra1) rfl (by kernel_rfl) (by kernel_rfl) (by kernel_rfl) (fun _ _ _ h => h) (Or.inl ⟨by rfl, ?hyra1⟩) hHeld ?restra1
  case hyra1 => (intro w hSw; (try dsimp only at hSw); go_simp <;> with_reducible rfl)
  try simp only [Act.put, List.setIfInBounds_toArray, List.set_cons_zero, List.set_cons_succ]
  refine wpAnyH_take (i := 3) (oi := { dst := some 7, op := Go.Op.fieldAddr 42 (Go.Operand.tmp 1) 1, type := 0, pos := "msg.go:153", after := #[], guard := none }) (v := ?vra3) rfl (by kernel_rfl) (by kernel_rfl) (by kernel_rfl) (fun _ _ _ h => h) (Or.inl ⟨by rfl, ?hyra3⟩) hHeld ?restra3
  case hyra3 => (intro w hSw; (try dsimp only at hSw); go_simp <;> with_reducible rfl)
  try simp only [Act.put, List.setIfInBounds_toArray, List.set_cons_zero, List.set_cons_succ]
  refine wpAnyH_take (i := 4) (oi := { dst := some 8, op := Go.Op.load 22 (Go.Operand.tmp 7), type := 22, pos := "msg.go:153", after := #[{ on := 3, ground := Go.Ground.data }], guard := none }) (v := ?vra4) rfl (by kernel_rfl) (by kernel_rfl) (by kernel_rfl) (fun _ _ _ h => h) (Or.inl ⟨by rfl, ?hyra4⟩) hHeld ?restra4
  case hyra4 => (intro w hSw; (try dsimp only at hSw); go_simp <;> with_reducible rfl)
  try simp only [Act.put, List.setIfInBounds_toArray, List.set_cons_zero, List.set_cons_succ]
  refine wpAnyH_take (i := 5) (oi := { dst := some 9, op := Go.Op.convert 22 62 (Go.Operand.tmp 8), type := 62, pos := "msg.go:153", after := #[{ on := 4, ground := Go.Ground.data }], guard := none }) (v := ?vra5) rfl (by kernel_rfl) (by kernel_rfl) (by kernel_rfl) (fun _ _ _ h => h) (Or.inl ⟨by rfl, ?hyra5⟩) hHeld ?restra5
  case hyra5 => (intro w hSw; (try dsimp only at hSw); go_simp <;> with_reducible rfl)
  try simp only [Act.put, List.setIfInBounds_toArray, List.set_cons_zero, List.set_cons_succ]
  refine wpAnyH_ready (rs := [2]) (by kernel_rfl) (by simp) ?_
  refine AllReadyH.cons (o := { dst := some 6, op := Go.Op.call { callee := Go.Callee.value (Go.Operand.func 44), args := #[Go.Operand.const (Go.Value.slice none 0 0), Go.Operand.tmp 5], argTypes := #[29, 2] }, type := 29, pos := "msg.go:153", after := #[{ on := 1, ground := Go.Ground.data }], guard := none }) rfl (fun K hK => ?_) AllReadyH.nil
  go_simp
  go_wp2_with (first | (go_at_call 44; (with_reducible refine KI.out.mono ?_); rintro r w1 ⟨v1, rfl, hr1, hb1⟩; (obtain ⟨A1, c1, rfl⟩ := Kd.R_slice hr1); have HB1 := Aside0.mk (below_step (below_drew HL.out) hb1); have HQ1 := Aside0.mk (HQ.out.drew.below hb1); have HR1 := Aside0.mk hr1; have hl1 : (beN 8 (e % top64)).length ≤ 140737488355000 := (by rw [beN_length]; decide); have KU := Aside0.mk (Uint_any A1 c1 (beN 8 (e % top64)) d w1 (Kd.R_reads' hr1).2.2 hl1 hd0 hd2); clear hr1 hb1))
  refine hK.out _ _ (⟨HQ1.out.cell 0, HQ1.out.cell 1⟩) (fun hHeld' => ?_)
  clear hK K hHeld
  have hHeld := hHeld'
  clear hHeld'
  try simp only [Act.put, List.setIfInBounds_toArray, List.set_cons_zero, List.set_cons_succ]
  refine wpAnyH_ready (rs := [6]) (by kernel_rfl) (by simp) ?_
  refine AllReadyH.cons (o := { dst := some 10, op := Go.Op.call { callee := Go.Callee.value (Go.Operand.func 43), args := #[Go.Operand.tmp 6, Go.Operand.tmp 9], argTypes := #[29, 62] }, type := 29, pos := "msg.go:153", after := #[{ on := 2, ground := Go.Ground.data }, { on := 5, ground := Go.Ground.data }, { on := 2, ground := Go.Ground.chain }], guard := none }) rfl (fun K hK => ?_) AllReadyH.nil
  go_simp
  go_wp2_with (first | (go_at_call 43; (with_reducible refine KU.out.mono ?_); rintro r w2 ⟨v2, rfl, hr2, hb2⟩; (obtain ⟨L2, hL2⟩ : ∃ L, beN 8 (e % top64) ++ beN 8 d = L := ⟨_, rfl⟩); rw [hL2] at hr2; (have HL2 := Aside0.mk hL2); clear hL2; (obtain ⟨A2, c2, rfl⟩ := Kd.R_slice hr2); have HB2 := Aside0.mk (below_step HB1.out hb2); have HQ2 := Aside0.mk (HQ1.out.below hb2); have HR2 := Aside0.mk hr2; clear hr2 hb2))
  refine hK.out _ _ (⟨HQ2.out.cell 0, HQ2.out.cell 1⟩) (fun hHeld' => ?_)
  clear hK K hHeld
  have hHeld := hHeld'
  clear hHeld'
  try simp only [Act.put, List.setIfInBounds_toArray, List.set_cons_zero, List.set_cons_succ]
  refine wpAnyH_take (i := 7) (oi := { dst := some 3, op := Go.Op.assign (Go.Operand.tmp 10), type := 29, pos := "msg.go:153", after := #[{ on := 6, ground := Go.Ground.data }, { on := 6, ground := Go.Ground.chain }, { on := 0, ground := Go.Ground.phase }, { on := 1, ground := Go.Ground.phase }, { on := 2, ground := Go.Ground.phase }, { on := 3, ground := Go.Ground.phase }, { on := 4, ground := Go.Ground.phase }, { on := 5, ground := Go.Ground.phase }, { on := 6, ground := Go.Ground.phase }], guard := none }) (v := ?vra7) rfl (by kernel_rfl) (by kernel_rfl) (by kernel_rfl) (fun _ _ _ h => h) (Or.inl ⟨by rfl, ?hyra7⟩) hHeld ?restra7
  case hyra7 => (intro w hSw; (try dsimp only at hSw); go_simp <;> with_reducible rfl)
  try simp only [Act.put, List.setIfInBounds_toArray, List.set_cons_zero, List.set_cons_succ]
  refine wpAnyH_done (by kernel_rfl) ?_ _
  refine NoPanic.normal ?_
  clear hHeld q0 q1 KI KU
  have hL2 := HL2.out
  have hl2 : L2.length = 16 := by rw [← hL2, List.length_append, beN_length, beN_length]
  have HE : Aside0 (rplB e d n m t = L2 ++ beN 8 (n % top64) ++ beN 8 (m % top64) ++ beN 4 (bytesOf t).length ++ bytesOf t) := ⟨by unfold rplB; rw [hL2]⟩
  have hlL := Aside0.mk hl2
  have HRC2 := Aside0.mk (show Kd.C (Kd.int .u8) w2 A2 L2.length L2 from (Kd.R_reads' HR2.out).2.2)
  have KI3 := Aside0.mk (fun (W : World) (h : Below w2.heap.size w2 W) => Int_any A2 c2 L2 n W (Kd.C_below HRC2.out h) (by have := hlL.out; omega))
  have Sall : Aside0 (∀ W : World, Below w2.heap.size w2 W → W.cell? ⟨w.heap.size, 2, none⟩ = some (.int .i64 n) ∧ W.cell? ⟨w.heap.size, 3, none⟩ = some (.int .i64 m) ∧ W.cell? ⟨w.heap.size, 4, none⟩ = some (.string t) ∧ Below w2.heap.size w2 W) := ⟨fun W h => ⟨(HQ2.out.below h).cell 2, (HQ2.out.below h).cell 3, (HQ2.out.below h).cell 4, h⟩⟩
  have kc0 := fun (w : World) => Lib.run_convert_string_bytes (P := Try.prog) w 9 29 5 t Try.underlying9 Try.underlying29 Try.underlying5
  have kc : ∀ w : World, (convert 9 29 (.string t)).run Try.prog w = .ok (.slice (some ⟨w.heap.size, 0, none⟩) (bytesOf t).length (grownCap w t.size 0 5)) (Lib.bytesWorld w 5 t) := fun w => by rw [bytesOf_length]; exact kc0 w
  have hbt : (bytesOf t).length ≤ 1000000 := by rw [bytesOf_length]; exact ht
  have HBT := Aside0.mk hbt
  have hts : Aside0 (∀ W : World, Kd.C (Kd.int .u8) (Lib.bytesWorld W 5 t) (some ⟨W.heap.size, 0, none⟩) (bytesOf t).length (bytesOf t)) := ⟨fun W => C_str W 5 t (by omega)⟩
  obtain ⟨nb, hnb⟩ : ∃ k, (bytesOf t).length = k := ⟨_, rfl⟩
  have HNB := Aside0.mk hnb
  rw [hnb] at kc
  have K0 := Aside0.mk (below_drew (Below.refl w2.heap.size w2))
  clear kc0 hl2 hL2 hbt hnb ht
  go_wp2_with fail
  refine wp_region_noPanic ?_
  go_region_held (fun W : World => W.cell? ⟨w.heap.size, 2, none⟩ = some (.int .i64 n) ∧ W.cell? ⟨w.heap.size, 3, none⟩ = some (.int .i64 m) ∧ W.cell? ⟨w.heap.size, 4, none⟩ = some (.string t) ∧ Below w2.heap.size w2 W)
    (first
      | exact Sall.out _ K0.out
      | exact Sall.out _ (below_step K0.out (str_below _ _ _))
      | exact Sall.out _ K1.out)
    (first
      | (go_at_call 44; (with_reducible refine (KI3.out _ ?_).mono ?_); (first | exact K0.out | exact below_step K0.out (str_below _ _ _)); rintro r w5 ⟨v5, rfl, hr5, hb5⟩; (obtain ⟨L5, hL5⟩ : ∃ L, L2 ++ beN 8 (n % top64) = L := ⟨_, rfl⟩); rw [hL5] at hr5; (have HL5 := Aside0.mk hL5); (have hl5 : L5.length ≤ 100000 := by rw [← hL5, List.length_append, beN_length]; have := hlL.out; omega); clear hL5; (obtain ⟨A5, c5, e5⟩ := Kd.R_slice hr5); subst e5; (have HR5 := Aside0.mk hr5); (try (have HCB := Aside0.mk (Kd.C_below (hts.out w2.drew) hb5))); (have K1 := Aside0.mk (show Below w2.heap.size w2 w5 from by first | exact below_step K0.out hb5 | exact below_step (below_step K0.out (str_below _ _ _)) hb5)); (have KI4 := Aside0.mk (fun (W : World) (h : Below w5.heap.size w5 W) => Int_any A5 c5 L5 m W (Kd.C_below (Kd.R_reads' HR5.out).2.2 h) (Nat.le_trans hl5 (by decide)))); (have KS5 := Aside0.mk (below_drewN_refl w5)); clear KI3 hr5 hb5 K0; (have K0 := K1); clear K1)
      | (go_at_call 44; (with_reducible refine (KI4.out _ ?_).mono ?_); (first | exact Below.refl _ _ | exact str_below _ _ _); rintro r w6 ⟨v6, rfl, hr6, hb6⟩; (obtain ⟨L6, hL6⟩ : ∃ L, L5 ++ beN 8 (m % top64) = L := ⟨_, rfl⟩); rw [hL6] at hr6; (have HL6 := Aside0.mk hL6); (have hl6 : L6.length ≤ 200000 := by rw [← hL6, List.length_append, beN_length]; omega); clear hL6; (obtain ⟨A6, c6, e6⟩ := Kd.R_slice hr6); subst e6; (have HR6 := Aside0.mk hr6); (try (have HCB := Aside0.mk (Kd.C_below (hts.out w5) hb6))); (try (have HCB := Aside0.mk (Kd.C_below HCB.out hb6))); (have K1 := Aside0.mk (show Below w2.heap.size w2 w6 from by first | exact below_step K0.out hb6 | exact below_step (below_step K0.out (str_below _ _ _)) hb6)); (have HRC6 := Aside0.mk (Kd.R_reads' HR6.out).2.2); clear KI4 hr6 hb6 K0; (have K0 := K1); clear K1)
      | (go_at_call 45; (with_reducible refine (text_at A6 c6 L6 _ _ (bytesOf t) HNB.out _ ?_ ?_ ?_).mono ?_); (first | exact HRC6.out | exact Kd.C_below HRC6.out (str_below _ _ _)); (first | exact HCB.out | exact hts.out _); (have := HBT.out; omega); rintro r w7 ⟨v7, rfl, hr7, hb7⟩; (have K1 := Aside0.mk (show Below w2.heap.size w2 w7 from by first | exact below_step K0.out hb7 | exact below_step (below_step K0.out (str_below _ _ _)) hb7)); (have HR7 := Aside0.mk (Kd.R_lower (base' := w.heap.size) hr7 (Nat.le_trans HB2.out.size (by first | exact K0.out.size | exact (below_step K0.out (str_below _ _ _)).size)))); clear hr7 hb7))
  all_goals
    refine NoPanic.normal ?_
    go_wp2_with fail
    go_ret
    exact ⟨_, rfl, by rw [HE.out, HL5.out, HL6.out]; exact HR7.out, below_step HB2.out K1.out⟩
abbrev X5 (W : World) (q : Nat) (v0 v1 v2 v3 v4 : Value) : World := (((((W.setCell ⟨q, 0, none⟩ v0).setCell ⟨q, 1, none⟩ v1).setCell ⟨q, 2, none⟩ v2).setCell ⟨q, 3, none⟩ v3).setCell ⟨q, 4, none⟩ v4)
theorem X5_put {W : World} {q t : Nat} {x0 x1 x2 x3 x4 : Value} (h : W.heap[q]? = some (Obj.cells #[x0, x1, x2, x3, x4] t (0, 0))) (v0 v1 v2 v3 v4 : Value) : (X5 W q v0 v1 v2 v3 v4).heap[q]? = some (Obj.cells #[v0, v1, v2, v3, v4] t (0, 0)) := by
  unfold X5
  have h0 := blk_put h 0 v0 (rfl : _ = #[v0, x1, x2, x3, x4])
  generalize W.setCell ⟨q, 0, none⟩ v0 = W1 at *
  have h1 := blk_put h0 1 v1 (rfl : _ = #[v0, v1, x2, x3, x4])
  generalize W1.setCell ⟨q, 1, none⟩ v1 = W2 at *
  have h2 := blk_put h1 2 v2 (rfl : _ = #[v0, v1, v2, x3, x4])
  generalize W2.setCell ⟨q, 2, none⟩ v2 = W3 at *
  have h3 := blk_put h2 3 v3 (rfl : _ = #[v0, v1, v2, v3, x4])
  generalize W3.setCell ⟨q, 3, none⟩ v3 = W4 at *
  exact blk_put h3 4 v4 rfl
theorem X5_kpt (W : World) (g q : Nat) (v0 v1 v2 v3 v4 : Value) : Kpt g q W (X5 W q v0 v1 v2 v3 v4) := (((((Kpt.set W 0 v0).trans (Kpt.set _ 1 v1)).trans (Kpt.set _ 2 v2)).trans (Kpt.set _ 3 v3)).trans (Kpt.set _ 4 v4))
abbrev rpZ : Array Value := #[.int .i64 0, .int .u32 0, .int .i64 0, .int .i64 0, .string { data := #[] }]
/-- What GetReply answers. -/
def gget (l : List Int) : (Int × Int × Int × Int × ByteArray) × Int :=
  let a := (⟨l, false⟩ : Rs).int; let b := a.2.uint; let c := b.2.int; let d := c.2.int; let f := d.2.text
  if f.2.done ≠ 0 ∨ 4294967295 < b.1 ∨ IntKind.i32.wrap a.1 ≠ a.1 then ((0, 0, 0, 0, { data := #[] }), 21) else ((a.1, b.1 % 4294967296, c.1, d.1, strOfNums f.1), 0)
theorem i32_range (e : Int) : -9223372036854775808 ≤ IntKind.i32.wrap e ∧ IntKind.i32.wrap e < 9223372036854775808 := by rw [IntKind.wrap_i32]; omega
set_option maxRecDepth 100000 in
set_option maxHeartbeats 6400000 in
theorem GetReply_go (A : Option Addr) (c : Nat) (l : List Int) (w : World) (hr : Kd.C (Kd.int .u8) w A l.length l) (hb : ∀ v ∈ l, IsByte v) (hm : l.length ≤ 140737488353000) :
    Calls Try.prog 14 #[.slice A l.length c] w fun r w' => r = .returned (.tuple #[.agg #[.int .i64 (gget l).1.1, .int .u32 (gget l).1.2.1, .int .i64 (gget l).1.2.2.1, .int .i64 (gget l).1.2.2.2.1, .string (gget l).1.2.2.2.2], .int .i64 (gget l).2]) ∧ Below w.heap.size w w' := by
  have HL := Aside0.mk (below_alloc (Below.refl _ w) (.cells rpZ 42))
  have HQ := Aside0.mk (Blk.new_ (W := w) (o := .cells rpZ 42))
  have KN := Aside0.mk (New_calls A c l _ (Kd.C_alloc hr (.cells rpZ 42)) hb (by omega))
  obtain ⟨⟨e, R1⟩, h1⟩ : ∃ x, (⟨l, false⟩ : Rs).int = x := ⟨_, rfl⟩
  obtain ⟨⟨d, R2⟩, h2⟩ : ∃ x, R1.uint = x := ⟨_, rfl⟩
  obtain ⟨⟨n, R3⟩, h3⟩ : ∃ x, R2.int = x := ⟨_, rfl⟩
  obtain ⟨⟨m, R4⟩, h4⟩ : ∃ x, R3.int = x := ⟨_, rfl⟩
  obtain ⟨⟨s, R5⟩, h5⟩ : ∃ x, R4.text = x := ⟨_, rfl⟩
  have HG0 := Aside0.mk (show gget l = if R5.done ≠ 0 ∨ 4294967295 < d ∨ IntKind.i32.wrap e ≠ e then ((0, 0, 0, 0, { data := #[] }), 21) else ((e, d % 4294967296, n, m, strOfNums s), 0) by unfold gget; simp only [h1, h2, h3, h4, h5])
  have l1 : R1.xs.length ≤ 140737488353000 := by have := int_len ⟨l, false⟩; rw [h1] at this; exact Nat.le_trans this hm
  have l2 : R2.xs.length ≤ 140737488353000 := by have := uint_len_ R1; rw [h2] at this; exact Nat.le_trans this l1
  have l3 : R3.xs.length ≤ 140737488353000 := by have := int_len R2; rw [h3] at this; exact Nat.le_trans this l2
  have l4 : R4.xs.length ≤ 140737488353000 := by have := int_len R3; rw [h4] at this; exact Nat.le_trans this l3
  have l5 : R5.xs.length ≤ 140737488353000 := by have := text_len_ R4; rw [h5] at this; exact Nat.le_trans this l4
  have H1 := Aside0.mk h1
  have H2 := Aside0.mk h2
  have H3 := Aside0.mk h3
  have H4 := Aside0.mk h4
  have H5 := Aside0.mk h5
  have wd := u32_conv d
  obtain ⟨we, hwe⟩ : ∃ x, IntKind.i32.wrap e = x := ⟨_, rfl⟩
  have wr := i32_range e
  rw [hwe] at wr HG0
  have we2 : IntKind.i64.wrap we = we := by rw [IntKind.wrap_i64]; omega
  clear hr hb h1 h2 h3 h4 h5 wr
  go_enter Try.func14, Try.ntmps14
  go_wp2_with fail
  (with_reducible refine KN.out.mono ?_)
  rintro r w1 ⟨g, rfl, hr1, hb1⟩
  have HB1 := Aside0.mk (below_step HL.out hb1)
  have HQ1 := Aside0.mk (HQ.out.below hb1)
  have hgq : w.heap.size < g := by have := rdr_g hr1; simp at this; omega
  generalize (fun k => (w.alloc (.cells rpZ 42)).heap.size ≤ k ∧ k < w1.heap.size) = B at hr1
  have K2 := Aside0.mk (Int_calls g B ⟨l, false⟩ w1 hr1 (by show l.length ≤ _; omega))
  rw [H1.out] at K2
  clear hr1 hb1 KN HQ
  go_wp2_with fail
  (with_reducible refine K2.out.mono ?_)
  rintro r w2 ⟨rfl, hr, hg⟩
  have HB2 := Aside0.mk (HB1.out.grown hg HB1.out.size (fun k e => by injection e with e; omega))
  have HQ2 := Aside0.mk ((show Blk w2 w.heap.size (.cells rpZ 42) from ⟨(hg.block _ HQ1.out.lt (fun e => by injection e with e; omega)).trans HQ1.out.out⟩))
  have K3 := Aside0.mk (Uint_calls g B R1 w2 hr (Nat.le_trans l1 (by decide)))
  rw [H2.out] at K3
  clear hr hg K2
  go_wp2_with fail
  (with_reducible refine K3.out.mono ?_)
  rintro r w3 ⟨rfl, hr, hg⟩
  have HB3 := Aside0.mk (HB2.out.grown hg HB2.out.size (fun k e => by injection e with e; omega))
  have HQ3 := Aside0.mk ((show Blk w3 w.heap.size (.cells rpZ 42) from ⟨(hg.block _ HQ2.out.lt (fun e => by injection e with e; omega)).trans HQ2.out.out⟩))
  have K4 := Aside0.mk (Int_calls g B R2 w3 hr (Nat.le_trans l2 (by decide)))
  rw [H3.out] at K4
  clear hr hg K3
  go_wp2_with fail
  (with_reducible refine K4.out.mono ?_)
  rintro r w4 ⟨rfl, hr, hg⟩
  have HB4 := Aside0.mk (HB3.out.grown hg HB3.out.size (fun k e => by injection e with e; omega))
  have HQ4 := Aside0.mk ((show Blk w4 w.heap.size (.cells rpZ 42) from ⟨(hg.block _ HQ3.out.lt (fun e => by injection e with e; omega)).trans HQ3.out.out⟩))
  have K5 := Aside0.mk (Int_calls g B R3 w4 hr (Nat.le_trans l3 (by decide)))
  rw [H4.out] at K5
  clear hr hg K4
  go_wp2_with fail
  (with_reducible refine K5.out.mono ?_)
  rintro r w5 ⟨rfl, hr, hg⟩
  have HB5 := Aside0.mk (HB4.out.grown hg HB4.out.size (fun k e => by injection e with e; omega))
  have HQ5 := Aside0.mk ((show Blk w5 w.heap.size (.cells rpZ 42) from ⟨(hg.block _ HQ4.out.lt (fun e => by injection e with e; omega)).trans HQ4.out.out⟩))
  have K6 := Aside0.mk (Text_calls g B R4 w5 hr (Nat.le_trans l4 (by decide)))
  rw [H5.out] at K6
  clear hr hg K5
  go_wp2_with fail
  (with_reducible refine K6.out.mono ?_)
  rintro r w6 ⟨v5, rfl, hv, hr, hg⟩
  obtain ⟨A5, c5, rfl⟩ := Kd.R_slice hv
  try dsimp only at hv hr
  have kcv := own_string (P := Try.prog) Try.underlying29 Try.underlying5 Try.underlying9 (Kd.own_of_R hv)
  have HB6 := Aside0.mk (HB5.out.grown hg HB5.out.size (fun k e => by injection e with e; omega))
  have HQ6 := Aside0.mk ((hg.block _ HQ5.out.lt (fun e => by injection e with e; omega)).trans HQ5.out.out)
  have KD := Aside0.mk (Done_calls g B R5 w6 hr (Nat.le_trans l5 (by decide)))
  have fz := fun j => blk_frozen HQ6.out j
  have f0 := fz 0
  have f1 := fz 1
  have f2 := fz 2
  have f3 := fz 3
  have f4 := fz 4
  have z0 := (cell_of_row w6 _ 0 _ _ _ HQ6.out).trans (rfl : _ = some (Value.int .i64 0))
  have z1 := (cell_of_row w6 _ 1 _ _ _ HQ6.out).trans (rfl : _ = some (Value.int .u32 0))
  have z2 := (cell_of_row w6 _ 2 _ _ _ HQ6.out).trans (rfl : _ = some (Value.int .i64 0))
  have z3 := (cell_of_row w6 _ 3 _ _ _ HQ6.out).trans (rfl : _ = some (Value.int .i64 0))
  have z4 := (cell_of_row w6 _ 4 _ _ _ HQ6.out).trans (rfl : _ = some (Value.string { data := #[] }))
  clear fz hv hr hg K6
  go_wp2_with fail
  (with_reducible refine KD.out.mono ?_)
  rintro r w9 ⟨rfl, rfl⟩
  by_cases hd : R5.done = 0
  · have hd2 : (R5.done != 0) = false := by rw [hd]; rfl
    by_cases hi : 4294967295 < d
    · have HG := Aside0.mk (show gget l = ((0, 0, 0, 0, { data := #[] }), 21) by rw [HG0.out, if_pos (.inr (.inl hi))])
      clear hd
      go_wp2_with fail
      have e3 := X5_put (W := w6) (q := w.heap.size) HQ6.out (.int .i64 0) (.int .u32 0) (.int .i64 0) (.int .i64 0) (.string { data := #[] })
      have e4 := X5_kpt w6 w.heap.size w.heap.size (.int .i64 0) (.int .u32 0) (.int .i64 0) (.int .i64 0) (.string { data := #[] })
      unfold X5 at e3 e4
      generalize (((((w6.setCell ⟨w.heap.size, 0, none⟩ (.int .i64 0)).setCell ⟨w.heap.size, 1, none⟩ (.int .u32 0)).setCell ⟨w.heap.size, 2, none⟩ (.int .i64 0)).setCell ⟨w.heap.size, 3, none⟩ (.int .i64 0)).setCell ⟨w.heap.size, 4, none⟩ (.string { data := #[] })) = W9 at e3 e4 ⊢
      have r0 := (cell_of_row W9 _ 0 _ _ _ e3).trans (rfl : _ = some (.int .i64 0 : Value))
      have r1 := (cell_of_row W9 _ 1 _ _ _ e3).trans (rfl : _ = some (.int .u32 0 : Value))
      have r2 := (cell_of_row W9 _ 2 _ _ _ e3).trans (rfl : _ = some (.int .i64 0 : Value))
      have r3 := (cell_of_row W9 _ 3 _ _ _ e3).trans (rfl : _ = some (.int .i64 0 : Value))
      have r4 := (cell_of_row W9 _ 4 _ _ _ e3).trans (rfl : _ = some (.string { data := #[] } : Value))
      exact bodyPost_ret (v := .tuple #[.agg #[.int .i64 0, .int .u32 0, .int .i64 0, .int .i64 0, .string { data := #[] }], .int .i64 21]) (by simp [results, Try.results14, go_sem, r0, r1, r2, r3, r4]) rfl ⟨by rw [HG.out], e4.below HB6.out HB6.out.size (Nat.le_refl _) (Nat.le_refl _)⟩
    · have hi2 : decide (4294967295 < d) = false := decide_eq_false hi
      by_cases he : we = e
      · have he2 : (e != we) = false := by rw [he]; simp
        have HG := Aside0.mk (show gget l = ((e, d % 4294967296, n, m, strOfNums s), 0) by rw [HG0.out, if_neg (by rintro (h | h | h); exact h hd; exact hi h; exact h he)])
        clear hd he
        go_wp2_with fail
        have e3 := X5_put (W := w6) (q := w.heap.size) HQ6.out (.int .i64 e) (.int .u32 (d % 4294967296)) (.int .i64 n) (.int .i64 m) (.string (strOfNums s))
        have e4 := X5_kpt w6 w.heap.size w.heap.size (.int .i64 e) (.int .u32 (d % 4294967296)) (.int .i64 n) (.int .i64 m) (.string (strOfNums s))
        unfold X5 at e3 e4
        generalize (((((w6.setCell ⟨w.heap.size, 0, none⟩ (.int .i64 e)).setCell ⟨w.heap.size, 1, none⟩ (.int .u32 (d % 4294967296))).setCell ⟨w.heap.size, 2, none⟩ (.int .i64 n)).setCell ⟨w.heap.size, 3, none⟩ (.int .i64 m)).setCell ⟨w.heap.size, 4, none⟩ (.string (strOfNums s))) = W9 at e3 e4 ⊢
        have r0 := (cell_of_row W9 _ 0 _ _ _ e3).trans (rfl : _ = some (.int .i64 e : Value))
        have r1 := (cell_of_row W9 _ 1 _ _ _ e3).trans (rfl : _ = some (.int .u32 (d % 4294967296) : Value))
        have r2 := (cell_of_row W9 _ 2 _ _ _ e3).trans (rfl : _ = some (.int .i64 n : Value))
        have r3 := (cell_of_row W9 _ 3 _ _ _ e3).trans (rfl : _ = some (.int .i64 m : Value))
        have r4 := (cell_of_row W9 _ 4 _ _ _ e3).trans (rfl : _ = some (.string (strOfNums s) : Value))
        exact bodyPost_ret (v := .tuple #[.agg #[.int .i64 e, .int .u32 (d % 4294967296), .int .i64 n, .int .i64 m, .string (strOfNums s)], .int .i64 0]) (by simp [results, Try.results14, go_sem, r0, r1, r2, r3, r4]) rfl ⟨by rw [HG.out], e4.below HB6.out HB6.out.size (Nat.le_refl _) (Nat.le_refl _)⟩
      · have he2 : (e != we) = true := by simp only [bne_iff_ne, ne_eq]; exact fun h => he h.symm
        have HG := Aside0.mk (show gget l = ((0, 0, 0, 0, { data := #[] }), 21) by rw [HG0.out, if_pos (.inr (.inr he))])
        clear hd
        go_wp2_with fail
        have e3 := X5_put (W := w6) (q := w.heap.size) HQ6.out (.int .i64 0) (.int .u32 0) (.int .i64 0) (.int .i64 0) (.string { data := #[] })
        have e4 := X5_kpt w6 w.heap.size w.heap.size (.int .i64 0) (.int .u32 0) (.int .i64 0) (.int .i64 0) (.string { data := #[] })
        unfold X5 at e3 e4
        generalize (((((w6.setCell ⟨w.heap.size, 0, none⟩ (.int .i64 0)).setCell ⟨w.heap.size, 1, none⟩ (.int .u32 0)).setCell ⟨w.heap.size, 2, none⟩ (.int .i64 0)).setCell ⟨w.heap.size, 3, none⟩ (.int .i64 0)).setCell ⟨w.heap.size, 4, none⟩ (.string { data := #[] })) = W9 at e3 e4 ⊢
        have r0 := (cell_of_row W9 _ 0 _ _ _ e3).trans (rfl : _ = some (.int .i64 0 : Value))
        have r1 := (cell_of_row W9 _ 1 _ _ _ e3).trans (rfl : _ = some (.int .u32 0 : Value))
        have r2 := (cell_of_row W9 _ 2 _ _ _ e3).trans (rfl : _ = some (.int .i64 0 : Value))
        have r3 := (cell_of_row W9 _ 3 _ _ _ e3).trans (rfl : _ = some (.int .i64 0 : Value))
        have r4 := (cell_of_row W9 _ 4 _ _ _ e3).trans (rfl : _ = some (.string { data := #[] } : Value))
        exact bodyPost_ret (v := .tuple #[.agg #[.int .i64 0, .int .u32 0, .int .i64 0, .int .i64 0, .string { data := #[] }], .int .i64 21]) (by simp [results, Try.results14, go_sem, r0, r1, r2, r3, r4]) rfl ⟨by rw [HG.out], e4.below HB6.out HB6.out.size (Nat.le_refl _) (Nat.le_refl _)⟩
  · have hd2 : (R5.done != 0) = true := by simpa using hd
    have HG := Aside0.mk (show gget l = ((0, 0, 0, 0, { data := #[] }), 21) by rw [HG0.out, if_pos (.inl hd)])
    go_wp2_with fail
    have e3 := X5_put (W := w6) (q := w.heap.size) HQ6.out (.int .i64 0) (.int .u32 0) (.int .i64 0) (.int .i64 0) (.string { data := #[] })
    have e4 := X5_kpt w6 w.heap.size w.heap.size (.int .i64 0) (.int .u32 0) (.int .i64 0) (.int .i64 0) (.string { data := #[] })
    unfold X5 at e3 e4
    generalize (((((w6.setCell ⟨w.heap.size, 0, none⟩ (.int .i64 0)).setCell ⟨w.heap.size, 1, none⟩ (.int .u32 0)).setCell ⟨w.heap.size, 2, none⟩ (.int .i64 0)).setCell ⟨w.heap.size, 3, none⟩ (.int .i64 0)).setCell ⟨w.heap.size, 4, none⟩ (.string { data := #[] })) = W9 at e3 e4 ⊢
    have r0 := (cell_of_row W9 _ 0 _ _ _ e3).trans (rfl : _ = some (.int .i64 0 : Value))
    have r1 := (cell_of_row W9 _ 1 _ _ _ e3).trans (rfl : _ = some (.int .u32 0 : Value))
    have r2 := (cell_of_row W9 _ 2 _ _ _ e3).trans (rfl : _ = some (.int .i64 0 : Value))
    have r3 := (cell_of_row W9 _ 3 _ _ _ e3).trans (rfl : _ = some (.int .i64 0 : Value))
    have r4 := (cell_of_row W9 _ 4 _ _ _ e3).trans (rfl : _ = some (.string { data := #[] } : Value))
    exact bodyPost_ret (v := .tuple #[.agg #[.int .i64 0, .int .u32 0, .int .i64 0, .int .i64 0, .string { data := #[] }], .int .i64 21]) (by simp [results, Try.results14, go_sem, r0, r1, r2, r3, r4]) rfl ⟨by rw [HG.out], e4.below HB6.out HB6.out.size (Nat.le_refl _) (Nat.le_refl _)⟩
end Go.Proofs.Ytanjkhdagegapaa.Ext
