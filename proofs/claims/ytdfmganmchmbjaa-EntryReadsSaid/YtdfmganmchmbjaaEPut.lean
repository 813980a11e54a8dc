/- entry's Puts, proved by walking their code. -/
import Derived.Test.YtdfmganmchmbjaaEChk
import Derived.Deep.RegionHeld3
import Derived.Lib.Strings
namespace Go.Proofs.Ytdfmganmchmbjaa.Ext
open Go.RowKit Go.Proofs.YtdfmganmchmbjaaW.PrintWords Go.Proofs.YtdfmganmchmbjaaW.PrintLast Go.Proofs.YtdfmganmchmbjaaW.PrintMore Go.Proofs.YtdfmganmchmbjaaW.Hand Go.Proofs.Ytdfmganmchmbjaa.PZ
set_option linter.unusedVariables false
theorem Uint_v (v0 : Value) (l : List Int) (x : Int) (w : World) {base : Nat} {ok : Nat → Prop} (h : Kd.R (Kd.int .u8) 5 w base ok v0 l) (hl : l.length ≤ 140737488355000) (h0 : 0 ≤ x) (h1 : x < top64) :
    Calls Try.prog 28 #[v0, .int .u64 x] w fun e w' => ∃ v1 : Value, e = .returned v1 ∧ Kd.R (Kd.int .u8) 5 w' w.heap.size (fun _ => True) v1 (l ++ beN 8 x) ∧ Below w.heap.size w w' := by
  obtain ⟨A, c, rfl⟩ := Kd.R_slice h
  exact Uint_any A c l x w (Kd.R_reads' h).2.2 hl h0 h1
theorem Int_v (v0 : Value) (l : List Int) (x : Int) (w : World) {base : Nat} {ok : Nat → Prop} (h : Kd.R (Kd.int .u8) 5 w base ok v0 l) (hl : l.length ≤ 140737488355000) :
    Calls Try.prog 29 #[v0, .int .i64 x] w fun e w' => ∃ v1 : Value, e = .returned v1 ∧ Kd.R (Kd.int .u8) 5 w' w.heap.size (fun _ => True) v1 (l ++ beN 8 (x % top64)) ∧ Below w.heap.size w w' := by
  obtain ⟨A, c, rfl⟩ := Kd.R_slice h
  exact Int_any A c l x w (Kd.R_reads' h).2.2 hl
theorem Byte_v (v0 : Value) (l : List Int) (x : Int) (w : World) {base : Nat} {ok : Nat → Prop} (h : Kd.R (Kd.int .u8) 5 w base ok v0 l) (hl : l.length ≤ 140737488355000) (h0 : 0 ≤ x) (h1 : x < 256) :
    Calls Try.prog 32 #[v0, .int .u8 x] w fun e w' => ∃ v1 : Value, e = .returned v1 ∧ Kd.R (Kd.int .u8) 5 w' w.heap.size (fun _ => True) v1 (l ++ beN 1 x) ∧ Below w.heap.size w w' := by
  obtain ⟨A, c, rfl⟩ := Kd.R_slice h
  exact Byte_any A c l x w (Kd.R_reads' h).2.2 hl h0 h1
theorem Text_v (v0 : Value) (l : List Int) (A2 : Option Addr) (n2 c2 : Nat) (s : List Int) (hs : s.length = n2) (w : World) {base : Nat} {ok : Nat → Prop} (h : Kd.R (Kd.int .u8) 5 w base ok v0 l) (h2 : Kd.C (Kd.int .u8) w A2 n2 s) (hl : l.length + s.length ≤ 140737488355000) :
    Calls Try.prog 30 #[v0, .slice A2 n2 c2] w fun e w' => ∃ v1 : Value, e = .returned v1 ∧ Kd.R (Kd.int .u8) 5 w' w.heap.size (fun _ => True) v1 (l ++ beN 4 s.length ++ s) ∧ Below w.heap.size w w' := by
  obtain ⟨A, c, rfl⟩ := Kd.R_slice h
  subst hs
  exact Text_any A c l A2 c2 s w (Kd.R_reads' h).2.2 h2 hl
theorem below_weak_ {A B : Nat} {w W : World} (h : Below A w W) (hle : B ≤ A) : Below B w W := ⟨h.os, h.tape, h.output, h.size, fun i hi => h.block i (Nat.lt_of_lt_of_le hi hle)⟩
/-- A part's bytes. -/
def pbytes (x : S37) : List Int := beN 4 (x.f0.size : Int) ++ bytesOf x.f0 ++ beN 8 (x.f1 % top64)
def phead (a0 a1 a2 n : Int) : List Int := beN 8 a0 ++ beN 8 (a1 % top64) ++ beN 8 (a2 % top64) ++ beN 8 (n % top64)
def epost (a0 a1 a2 : Int) (l : List S37) : List Int := phead a0 a1 a2 l.length ++ (l.map pbytes).flatten
def eput (a0 a1 a2 : Int) (l : List S37) : List Int × Int := if eposts a0 a1 l = true then (epost a0 a1 a2 l, 0) else ([], 1)
theorem map_take {α : Type} (l : List α) (d : α) (f : α → List Int) (j : Nat) (h : j < l.length) : ((l.take (j + 1)).map f).flatten = ((l.take j).map f).flatten ++ f (l.getD j d) := by
  rw [take_one l d j h]; simp
theorem pbad_size {x : S37} (h : pbad x = false) : 0 < x.f0.size ∧ x.f0.size ≤ 32 ∧ x.f1 ≠ 0 ∧ -4611686018427387904 ≤ x.f1 ∧ x.f1 ≤ 4611686018427387904 := by
  unfold pbad at h
  simp only [Bool.or_eq_false_iff, decide_eq_false_iff_not, beq_eq_false_iff_ne, ne_eq] at h
  obtain ⟨⟨⟨⟨h1, h2⟩, h3⟩, h4⟩, h5⟩ := h
  refine ⟨?_, by omega, h3, by omega, by omega⟩
  rcases Nat.eq_zero_or_pos x.f0.size with h0 | h0
  · rw [Lib.toList_data, List.isEmpty_eq_false_iff] at h1
    exact absurd (List.eq_nil_of_length_eq_zero (by rw [Array.length_toList]; exact h0)) h1
  · exact h0
theorem pbytes_length (x : S37) : (pbytes x).length = 12 + x.f0.size := by
  unfold pbytes; rw [List.length_append, List.length_append, beN_length, beN_length, bytesOf_length]; omega
theorem parts_length (l : List S37) (h : l.any pbad = false) : ((l.map pbytes).flatten).length ≤ 44 * l.length := by
  induction l with
  | nil => simp
  | cons x l ih =>
    rw [List.any_cons, Bool.or_eq_false_iff] at h
    have h1 := ih h.2
    have h2 := (pbad_size h.1).2.1
    have h3 := pbytes_length x
    simp only [List.map_cons, List.flatten_cons, List.length_append, List.length_cons]
    omega
theorem any_mem {α : Type} {p : α → Bool} {l : List α} (h : l.any p = false) {x : α} (hx : x ∈ l) : p x = false := by
  cases hq : p x with
  | false => rfl
  | true => rw [List.any_eq_true.2 ⟨x, hx, hq⟩] at h; cases h
theorem any_take_false {α : Type} {p : α → Bool} {l : List α} (h : l.any p = false) (j : Nat) : (l.take j).any p = false := by
  cases hq : (l.take j).any p with
  | false => rfl
  | true =>
    obtain ⟨x, hx, hp⟩ := List.any_eq_true.1 hq
    rw [any_mem h (List.mem_of_mem_take hx)] at hp; cases hp
theorem phead_length (a0 a1 a2 n : Int) : (phead a0 a1 a2 n).length = 32 := by unfold phead; simp [beN_length]
theorem putposting_no (a0 a1 a2 : Int) (A : Option Addr) (c : Nat) (l : List S37) (w : World) (hC : Kd.C k37 w A l.length l) (hno : eposts a0 a1 l = false) :
    Calls Try.prog 9 #[.agg #[.int .u64 a0, .int .i64 a1, .int .u32 a2, .slice A l.length c]] w fun e w' => e = .returned (.tuple #[.slice none 0 0, .int .i64 1]) ∧ Below w.heap.size w w' := by
  have kp := Aside0.mk (fun w hC => posts_calls a0 a1 a2 A c l w hC)
  rw [hno] at kp
  have HC := Aside0.mk hC
  clear hC hno
  go_enter Try.func9, Try.ntmps9
  go_wp2_with fail
  refine (kp.out _ (Kd.C_below HC.out (below_alloc (Below.refl _ _) _))).mono ?_
  rintro e w2 ⟨rfl, hb⟩
  have HB := Aside0.mk (below_step (below_alloc (Below.refl _ _) _) hb)
  clear hb
  go_wp2_with fail
  go_ret2
  exact ⟨rfl, HB.out⟩
set_option maxRecDepth 100000 in
set_option maxHeartbeats 3200000 in
theorem putposting_yes (a0 a1 a2 : Int) (A : Option Addr) (c : Nat) (l : List S37) (w : World) (hC : Kd.C k37 w A l.length l) (h0 : 0 ≤ a0) (h1 : a0 < top64) (hyes : eposts a0 a1 l = true) :
    Calls Try.prog 9 #[.agg #[.int .u64 a0, .int .i64 a1, .int .u32 a2, .slice A l.length c]] w fun e w' => ∃ v : Value, e = .returned (.tuple #[v, .int .i64 0]) ∧ Kd.R (Kd.int .u8) 5 w' w.heap.size (fun _ => True) v (epost a0 a1 a2 l) ∧ Below w.heap.size w w' := by
  have kp := Aside0.mk (fun w hC => posts_calls a0 a1 a2 A c l w hC)
  rw [hyes] at kp
  have HC := Aside0.mk hC
  have e2 := u64_conv a2
  have e3 := u64_conv (l.length : Int)
  have HA := Aside0.mk (⟨h0, h1⟩ : 0 ≤ a0 ∧ a0 < top64)
  have ht2 := Aside0.mk (top_pos a2)
  have ht3 := Aside0.mk (top_pos (l.length : Int))
  have hlen : l.length ≤ 16 ∧ l.any pbad = false := by
    unfold eposts at hyes
    simp only [Bool.and_eq_true, decide_eq_true_eq, Bool.not_eq_true'] at hyes
    exact ⟨by omega, hyes.2⟩
  have HLEN := Aside0.mk hlen
  have hl16 := hlen.1
  clear hC hyes h0 h1 hlen
  go_enter Try.func9, Try.ntmps9
  go_wp2_with fail
  refine (kp.out _ (Kd.C_below HC.out (below_alloc (Below.refl _ _) _))).mono ?_
  rintro e w2 ⟨rfl, hb⟩
  have hb1 := below_alloc (Below.refl w.heap.size w) (Obj.cells #[.int .u64 a0, .int .i64 a1, .int .u32 a2, .slice A l.length c] 26)
  have HB2 := Aside0.mk (below_step hb1 hb)
  obtain ⟨q, hq⟩ : ∃ q, w.heap.size = q := ⟨_, rfl⟩
  have HX2 : Aside0 (Blk w2 q (Obj.cells #[.int .u64 a0, .int .i64 a1, .int .u32 a2, .slice A l.length c] 26 (0, 0))) := ⟨(Blk.new (W := w) hq.symm).below hb⟩
  have x0 := HX2.out.cell 0
  have x1 := HX2.out.cell 1
  have x2 := HX2.out.cell 2
  have x3 := HX2.out.cell 3
  simp at x0 x1 x2 x3
  rw [hq] at HB2 ⊢
  clear hb hb1 kp
  go_wp2_with fail
  have K0 := Aside0.mk (below_drew (Below.refl w2.heap.size w2))
  have Sall : Aside0 (∀ W : World, Below w2.heap.size w2 W → W.cell? ⟨q, 0, none⟩ = some (.int .u64 a0) ∧ W.cell? ⟨q, 1, none⟩ = some (.int .i64 a1) ∧ W.cell? ⟨q, 2, none⟩ = some (.int .u32 a2)) := ⟨fun W hW => by
    have HX := HX2.out.below hW
    exact ⟨(HX.cell 0).trans rfl, (HX.cell 1).trans rfl, (HX.cell 2).trans rfl⟩⟩
  refine wp_region_noPanic ?_
  go_region_held (fun W : World => W.cell? ⟨q, 0, none⟩ = some (.int .u64 a0) ∧ W.cell? ⟨q, 1, none⟩ = some (.int .i64 a1) ∧ W.cell? ⟨q, 2, none⟩ = some (.int .u32 a2))
    (first
      | exact Sall.out _ K0.out
      | exact Sall.out _ K1.out
      | exact Sall.out _ K2.out
      | exact Sall.out _ K3.out)
    (first
      | (go_at_call 28; (with_reducible refine (Uint_v (.slice none 0 0) [] a0 _ (base := 0) (ok := fun _ => True) (Kd.R_nil _ _ _ _ _) (by simp) HA.out.1 HA.out.2).mono ?_); rintro e w3 ⟨v3, rfl, hV, hb⟩; (have K1 := Aside0.mk (below_step K0.out hb)); (have V3 := Aside0.mk hV); clear hV hb)
      | (go_at_call 29; (with_reducible refine (Int_v v3 _ a1 _ V3.out (by simp [beN_length])).mono ?_); rintro e w4 ⟨v4, rfl, hV, hb⟩; (have K2 := Aside0.mk (below_step K1.out hb)); (have V4 := Aside0.mk hV); clear hV hb)
      | (go_at_call 28; (with_reducible refine (Uint_v v4 _ (a2 % top64) _ V4.out (by simp [beN_length]) ht2.out.1 ht2.out.2).mono ?_); rintro e w5 ⟨v5, rfl, hV, hb⟩; (have K3 := Aside0.mk (below_step K2.out hb)); (have V5 := Aside0.mk hV); clear hV hb))
  refine NoPanic.normal ?_
  have HX5 := Aside0.mk (HX2.out.below K3.out)
  have HB5 := Aside0.mk (HB2.out.trans (below_weak_ K3.out (Nat.le_of_lt HX2.out.lt)))
  have x3 := (HX5.out.cell 3).trans (rfl : _ = some (Value.slice A l.length c))
  have HHD : Aside0 (phead a0 a1 a2 l.length = [] ++ beN 8 a0 ++ beN 8 (a1 % top64) ++ beN 8 (a2 % top64) ++ beN 8 ((l.length : Int) % top64)) := ⟨rfl⟩
  clear x0 x1 x2 HX2 HB2 K0 K1 K2 K3 V3 V4 Sall
  go_wp2_with fail
  refine (Uint_v v5 _ ((l.length : Int) % top64) _ V5.out (by simp [beN_length]) ht3.out.1 ht3.out.2).mono ?_
  rintro e w6 ⟨v6, rfl, hV, hb⟩
  rw [← HHD.out] at hV
  have V6 : Aside0 (Kd.R (Kd.int .u8) 5 w6 q (fun _ => True) v6 (phead a0 a1 a2 l.length ++ ((l.take 0).map pbytes).flatten)) := ⟨by simpa using Kd.R_lower hV (by have := HB5.out.size; omega : q ≤ w5.heap.size)⟩
  have HX6 := Aside0.mk (HX5.out.below hb)
  have HB6 := Aside0.mk (HB5.out.trans (below_weak_ hb (by have := HB5.out.size; omega)))
  have x3 := (HX6.out.cell 3).trans (rfl : _ = some (Value.slice A l.length c))
  clear hb hV HX5 HB5 V5 HHD
  go_wp2_with fail
  go_loopw [4, 29] (fun b i wr => ∃ j : Nat, j ≤ l.length ∧ i = .int .i64 j ∧ Aside0 (Kd.R (Kd.int .u8) 5 wr q (fun _ => True) b (phead a0 a1 a2 l.length ++ ((l.take j).map pbytes).flatten)) ∧ Aside0 (Below q w wr)) (fun _ i _ => l.length - (intOf i).toNat)
  case atStart => exact ⟨0, by omega, by rfl, V6, HB6⟩
  case round =>
    obtain ⟨j, hj, rfl, HVj, HBj⟩ := hrel
    by_cases hlt : j < l.length
    · obtain ⟨ad, e1, hx0, hx1⟩ := at_T37 (Kd.C_below HC.out (hq ▸ HBj.out)) j (by omega) (by omega)
      cases e1
      have hst := map_take l z37 pbytes j hlt
      have hrd : rd_T37 l (j : Int) = l.getD j z37 := rfl
      have hgood : pbad (rd_T37 l (j : Int)) = false := by
        rw [hrd, List.getD_eq_getElem?_getD, List.getElem?_eq_getElem hlt]
        exact any_mem HLEN.out.2 (List.getElem_mem hlt)
      have hLj := parts_length (l.take j) (any_take_false HLEN.out.2 j)
      rw [← hrd] at hst
      obtain ⟨⟨f0, f1⟩, ht⟩ : ∃ t, rd_T37 l (j : Int) = t := ⟨_, rfl⟩
      rw [ht] at hx0 hx1 hst hgood
      have hsz := (pbad_size hgood).2.1
      simp only [Int.toNat_natCast] at hx0 hx1 hsz
      have HL : Aside0 ((phead a0 a1 a2 l.length ++ ((l.take j).map pbytes).flatten).length ≤ 10000) := ⟨by rw [List.length_append, phead_length]; rw [List.length_take] at hLj; omega⟩
      have HST := Aside0.mk hst
      have HSZ := Aside0.mk hsz
      have kcs : ∀ W : World, (convert 9 31 (.string f0)).run Try.prog W = .ok (.slice (some ⟨W.heap.size, 0, none⟩) f0.size (grownCap W f0.size 0 5)) (Lib.bytesWorld W 5 f0) := fun W => Lib.run_convert_string_bytes (P := Try.prog) W 9 31 5 f0 Try.underlying9 Try.underlying31 Try.underlying5
      have ew9 : IntKind.i64.wrap ((j : Int) + 1) = (j : Int) + 1 := by rw [IntKind.wrap_i64]; omega
      have hj1 : (j : Int) < (l.length : Int) := by omega
      clear ht hrd hst hgood hLj hsz
      go_wp2_with fail
      have hbx : Aside0 (Blk (wr.alloc (Obj.cells #[.string f0, .int .i64 f1] 37)) wr.heap.size (Obj.cells #[.string f0, .int .i64 f1] 37 (0, 0))) := ⟨Blk.new_⟩
      have HBa := Aside0.mk (HBj.out.trans (below_weak_ (below_alloc (Below.refl wr.heap.size wr) (Obj.cells #[.string f0, .int .i64 f1] 37)) (by have := HBj.out.size; omega : q ≤ wr.heap.size)))
      have HVa := Aside0.mk (Kd.R_alloc HVj.out (Obj.cells #[.string f0, .int .i64 f1] 37))
      obtain ⟨wa, hwa⟩ : ∃ W, wr.alloc (Obj.cells #[.string f0, .int .i64 f1] 37) = W := ⟨_, rfl⟩
      obtain ⟨t, ht⟩ : ∃ t, wr.heap.size = t := ⟨_, rfl⟩
      rw [hwa] at hbx HBa HVa ⊢
      rw [ht] at hbx ⊢
      have K0 := Aside0.mk (below_drew (Below.refl wa.heap.size wa))
      have Sall : Aside0 (∀ W : World, Below wa.heap.size wa W → W.cell? ⟨t, 0, none⟩ = some (.string f0) ∧ W.cell? ⟨t, 1, none⟩ = some (.int .i64 f1)) := ⟨fun W hW => by
        have HX := hbx.out.below hW
        exact ⟨(HX.cell 0).trans rfl, (HX.cell 1).trans rfl⟩⟩
      have C7 : Aside0 (Kd.C (Kd.int .u8) (Lib.bytesWorld wa.drew 5 f0) (some ⟨wa.heap.size, 0, none⟩) f0.size (bytesOf f0)) := ⟨by
        have := C_str wa.drew 5 f0 (by have := HSZ.out; omega)
        rw [bytesOf_length] at this
        exact this⟩
      have K6 := Aside0.mk (below_step K0.out (str_below wa.drew 5 f0))
      have R7 := Aside0.mk (Kd.R_below HVa.out K6.out)
      have L7 : Aside0 ((phead a0 a1 a2 l.length ++ ((l.take j).map pbytes).flatten).length + (bytesOf f0).length ≤ 20000) := ⟨by have := HL.out; have := HSZ.out; rw [bytesOf_length]; omega⟩
      clear hx0 hx1 hwa ht
      refine wp_region_noPanic ?_
      go_region_held (fun W : World => W.cell? ⟨t, 0, none⟩ = some (.string f0) ∧ W.cell? ⟨t, 1, none⟩ = some (.int .i64 f1))
        (first
          | exact Sall.out _ K0.out
          | exact Sall.out _ K6.out
          | exact Sall.out _ K7.out
          | exact Sall.out _ K8.out)
        (first
          | (go_at_call 30; (with_reducible refine (Text_v u4 _ (some ⟨wa.heap.size, 0, none⟩) f0.size _ (bytesOf f0) (bytesOf_length f0) _ R7.out C7.out (by have := L7.out; omega)).mono ?_); rintro e w7 ⟨v7, rfl, hV, hb⟩; (have K7 := Aside0.mk (below_step K6.out hb)); (have V7 := Aside0.mk hV); clear hV hb)
          | (go_at_call 29; (with_reducible refine (Int_v v7 _ f1 _ V7.out (by have := L7.out; rw [List.length_append, List.length_append, beN_length]; omega)).mono ?_); rintro e w8 ⟨v8, rfl, hV, hb⟩; (have K8 := Aside0.mk (below_step K7.out hb)); (have V8 := Aside0.mk hV); clear hV hb))
      refine NoPanic.normal ?_
      have HB8 : Aside0 (Below q w w8) := ⟨HBa.out.trans (below_weak_ K8.out (by have := HBa.out.size; omega))⟩
      have HV8 : Aside0 (Kd.R (Kd.int .u8) 5 w8 q (fun _ => True) v8 (phead a0 a1 a2 l.length ++ ((l.take (j + 1)).map pbytes).flatten)) := ⟨by
        have h1 := Kd.R_lower V8.out (by have := HBa.out.size; have := K7.out.size; omega : q ≤ w7.heap.size)
        rw [HST.out, show pbytes ⟨f0, f1⟩ = beN 4 (f0.size : Int) ++ bytesOf f0 ++ beN 8 (f1 % top64) from rfl]
        rw [bytesOf_length] at h1
        simpa only [List.append_assoc] using h1⟩
      clear V7 V8 K0 K6 K7 K8 C7 R7 L7 HVa HBa HST HL HSZ hbx Sall
      go_wp2_with fail
      exact ⟨⟨j + 1, by omega, by simp, HV8, HB8⟩, by simp [intOf]; omega⟩
    · obtain rfl : j = l.length := by omega
      rw [List.take_length] at HVj
      go_wp2_with fail
      go_ret2
      exact ⟨_, rfl, by rw [hq]; exact HVj.out, by rw [hq]; exact HBj.out⟩
theorem PutPosting_all (a0 a1 a2 : Int) (A : Option Addr) (c : Nat) (l : List S37) (w : World) (hC : Kd.C k37 w A l.length l) (h0 : 0 ≤ a0) (h1 : a0 < top64) :
    Calls Try.prog 9 #[.agg #[.int .u64 a0, .int .i64 a1, .int .u32 a2, .slice A l.length c]] w fun e w' => ∃ v : Value, e = .returned (.tuple #[v, .int .i64 (eput a0 a1 a2 l).2]) ∧ Kd.R (Kd.int .u8) 5 w' w.heap.size (fun _ => True) v (eput a0 a1 a2 l).1 ∧ Below w.heap.size w w' := by
  cases hq : eposts a0 a1 l with
  | true =>
    have e : eput a0 a1 a2 l = (epost a0 a1 a2 l, 0) := by unfold eput; rw [if_pos hq]
    rw [e]
    exact putposting_yes a0 a1 a2 A c l w hC h0 h1 hq
  | false =>
    have e : eput a0 a1 a2 l = ([], 1) := by unfold eput; rw [if_neg (by rw [hq]; decide)]
    rw [e]
    refine (putposting_no a0 a1 a2 A c l w hC hq).mono ?_
    rintro e w' ⟨rfl, hb⟩
    exact ⟨_, rfl, Kd.R_nil _ _ _ _ _, hb⟩
end Go.Proofs.Ytdfmganmchmbjaa.Ext
