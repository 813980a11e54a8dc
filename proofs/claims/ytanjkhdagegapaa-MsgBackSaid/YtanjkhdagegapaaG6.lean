import Derived.Test.YtanjkhdagegapaaMRep
import Derived.Test.YtanjkhdagegapaaBeMath
import Derived.Test.YtanjkhdagegapaaG3
import Derived.Test.YtanjkhdagegapaaG5
section
/- Plain facts on what readers take: what was put comes back; what is read without fault is what was put. -/
namespace Go.Proofs.Ytanjkhdagegapaa.Ext
open Go.RowKit Go.Proofs.YtanjkhdagegapaaW.PrintWords Go.Proofs.YtanjkhdagegapaaW.PrintLast Go.Proofs.YtanjkhdagegapaaW.PrintMore Go.Proofs.YtanjkhdagegapaaW.Hand Go.Proofs.Ytanjkhdagegapaa.PZ
set_option linter.unusedVariables false
namespace MM
theorem str_nums (l : List Int) (h : ∀ x ∈ l, IsByte x) : bytesOf (strOfNums l) = l := by
  unfold bytesOf
  rw [strOfNums_data, List.map_map]
  conv => rhs; rw [← List.map_id l]
  refine List.map_congr_left fun x hx => ?_
  have := h x hx
  unfold IsByte at this
  simp only [Function.comp_apply, id_eq, UInt8.toNat_ofNat']
  omega
theorem top_emod_wrap (v : Int) (h0 : 0 ≤ v) (h1 : v < top64) : wrap64 v % top64 = v := by
  unfold wrap64 top64 at *
  omega
/-- A reading that leaves the reader sound began with a sound one, and took what its bytes say. -/
structure Good {α : Type} (f : Rs → α × Rs) (enc : α → List Int) (P : α → Prop) : Prop where
  was : ∀ r, (f r).2.bad = false → r.bad = false
  took : ∀ r, (∀ x ∈ r.xs, IsByte x) → (f r).2.bad = false → r.xs = enc (f r).1 ++ (f r).2.xs ∧ P (f r).1
theorem Good.rest {α : Type} {f : Rs → α × Rs} {enc : α → List Int} {P : α → Prop} (h : Good f enc P) {r : Rs} (hb : ∀ x ∈ r.xs, IsByte x) (h1 : (f r).2.bad = false) : ∀ x ∈ (f r).2.xs, IsByte x := fun x hx => hb x (by rw [(h.took r hb h1).1]; exact List.mem_append_right _ hx)
theorem take_good (r : Rs) (n : Nat) (h : (r.take n).2.bad = false) : r.bad = false ∧ ∃ l, r.take n = (some l, ⟨r.xs.drop n, false⟩) ∧ l = r.xs.take n ∧ l.length = n := by
  unfold Rs.take at h ⊢
  by_cases hc : r.bad = true ∨ r.xs.length < n
  · rw [if_pos hc] at h; cases h
  · rw [if_neg hc]
    have hc' : r.bad = false ∧ n ≤ r.xs.length := by
      constructor
      · cases hb : r.bad
        · rfl
        · exact absurd (Or.inl hb) hc
      · omega
    exact ⟨hc'.1, _, rfl, rfl, by rw [List.length_take]; omega⟩
theorem take_parts {l : List Int} {n : Nat} (h : ∀ x ∈ l, IsByte x) (hl : (l.take n).length = n) : beN n (beVal (l.take n)) = l.take n ∧ (0 ≤ beVal (l.take n) ∧ beVal (l.take n) < 256 ^ n) := by
  have h1 : ∀ x ∈ l.take n, IsByte x := fun x hx => h x (List.mem_of_mem_take hx)
  have hbe := beN_beVal _ h1
  have hv := beVal_lt _ h1
  rw [hl] at hbe hv
  exact ⟨hbe, hv⟩
theorem uint_good : Good Rs.uint (beN 8) (fun v => 0 ≤ v ∧ v < top64) := by
  refine ⟨fun r h => ?_, fun r hb h => ?_⟩
  · by_cases hb : (r.take 8).2.bad = false
    · exact (take_good r 8 hb).1
    · exfalso; unfold Rs.uint at h; cases ht : r.take 8 with | mk o r' => rw [ht] at h hb; cases o <;> exact hb h
  · have ht : (r.take 8).2.bad = false := by unfold Rs.uint at h; cases ht : r.take 8 with | mk o r' => rw [ht] at h; cases o <;> exact h
    obtain ⟨_, l, h1, h2, h3⟩ := take_good r 8 ht
    have e : r.uint = (beVal l, ⟨r.xs.drop 8, false⟩) := by unfold Rs.uint; rw [h1]
    rw [e]
    subst h2
    have hp := take_parts hb h3
    exact ⟨by dsimp only; rw [hp.1, List.take_append_drop], hp.2.1, Int.lt_of_lt_of_le hp.2.2 (by decide)⟩
theorem int_good : Good Rs.int (fun v => beN 8 (v % top64)) (fun v => -9223372036854775808 ≤ v ∧ v ≤ 9223372036854775807) := by
  refine ⟨fun r h => ?_, fun r hb h => ?_⟩
  · by_cases hb : (r.take 8).2.bad = false
    · exact (take_good r 8 hb).1
    · exfalso; unfold Rs.int at h; cases ht : r.take 8 with | mk o r' => rw [ht] at h hb; cases o <;> exact hb h
  · have ht : (r.take 8).2.bad = false := by unfold Rs.int at h; cases ht : r.take 8 with | mk o r' => rw [ht] at h; cases o <;> exact h
    obtain ⟨_, l, h1, h2, h3⟩ := take_good r 8 ht
    have e : r.int = (wrap64 (beVal l), ⟨r.xs.drop 8, false⟩) := by unfold Rs.int; rw [h1]
    rw [e]
    subst h2
    have hp := take_parts hb h3
    refine ⟨by dsimp only; rw [top_emod_wrap _ hp.2.1 (Int.lt_of_lt_of_le hp.2.2 (by decide)), hp.1, List.take_append_drop], ?_⟩
    dsimp only
    unfold wrap64
    omega
theorem byte_good : Good Rs.byte (beN 1) (fun v => 0 ≤ v ∧ v < 256) := by
  refine ⟨fun r h => ?_, fun r hb h => ?_⟩
  · by_cases hb : (r.take 1).2.bad = false
    · exact (take_good r 1 hb).1
    · exfalso; unfold Rs.byte at h; cases ht : r.take 1 with | mk o r' => rw [ht] at h hb; cases o <;> exact hb h
  · have ht : (r.take 1).2.bad = false := by unfold Rs.byte at h; cases ht : r.take 1 with | mk o r' => rw [ht] at h; cases o <;> exact h
    obtain ⟨_, l, h1, h2, h3⟩ := take_good r 1 ht
    have e : r.byte = (rd l 0, ⟨r.xs.drop 1, false⟩) := by unfold Rs.byte; rw [h1]
    rw [e]
    have hl : ∃ c, l = [c] := by
      match l, h3 with
      | [c], _ => exact ⟨c, rfl⟩
    obtain ⟨c, rfl⟩ := hl
    have hc : IsByte c := hb c (List.mem_of_mem_take (by rw [← h2]; simp))
    have hx : r.xs = c :: r.xs.drop 1 := by
      conv => lhs; rw [← List.take_append_drop 1 r.xs, ← h2]
      rfl
    have e1 : beN 1 c = [c] := by
      have := beN_beVal [c] (by intro x hx; rw [List.mem_singleton.1 hx]; exact hc)
      rw [show beVal [c] = c by simp [beVal]] at this
      exact this
    refine ⟨?_, hc⟩
    show r.xs = beN 1 c ++ r.xs.drop 1
    rw [e1]
    exact hx
theorem text_good : Good Rs.text (fun s => beN 4 s.length ++ s) (fun s => (∀ x ∈ s, IsByte x) ∧ (s.length : Int) < 4294967296) := by
  have k1 : ∀ r : Rs, r.text.2.bad = false → (r.len4.2.take r.len4.1.toNat).2.bad = false := by
    intro r h
    unfold Rs.text at h
    cases ht : r.len4.2.take r.len4.1.toNat with | mk o r' => rw [ht] at h; cases o <;> exact h
  have k2 : ∀ r : Rs, r.len4.2.bad = false → (r.take 4).2.bad = false := by
    intro r h
    unfold Rs.len4 at h
    cases ht : r.take 4 with | mk o r' => rw [ht] at h; cases o <;> exact h
  refine ⟨fun r h => (take_good r 4 (k2 r (take_good _ _ (k1 r h)).1)).1, fun r hb h => ?_⟩
  obtain ⟨h4, l, e1, e2, e3⟩ := take_good _ _ (k1 r h)
  obtain ⟨_, m, f1, f2, f3⟩ := take_good r 4 (k2 r h4)
  have el : r.len4 = (beVal m, ⟨r.xs.drop 4, false⟩) := by unfold Rs.len4; rw [f1]
  have et : r.text = (l, ⟨r.len4.2.xs.drop r.len4.1.toNat, false⟩) := by unfold Rs.text; rw [e1]
  rw [et]
  rw [el] at e2 e3 ⊢
  dsimp only at e2 e3 ⊢
  subst f2
  have hp := take_parts hb f3
  have hn : ((beVal (r.xs.take 4)).toNat : Int) = beVal (r.xs.take 4) := by omega
  refine ⟨?_, fun x hx => hb x (List.mem_of_mem_drop (List.mem_of_mem_take (by rw [← e2]; exact hx))), by rw [e3, hn]; exact Int.lt_of_lt_of_le hp.2.2 (by decide)⟩
  rw [e3, hn, hp.1, e2, List.append_assoc, List.take_append_drop, List.take_append_drop]
theorem done_zero {r : Rs} (h : r.done = 0) : r.bad = false ∧ r.xs = [] := by
  unfold Rs.done at h
  by_cases hc : r.bad = true ∨ 0 < r.xs.length
  · rw [if_pos hc] at h; omega
  · refine ⟨?_, ?_⟩
    · cases hb : r.bad
      · rfl
      · exact absurd (Or.inl hb) hc
    · cases hx : r.xs with
      | nil => rfl
      | cons a b => exact absurd (Or.inr (by rw [hx]; simp)) hc
end MM
end Go.Proofs.Ytanjkhdagegapaa.Ext
end

section
/- quitrentref25: number, Reply. -/
namespace Go.Proofs.Ytanjkhdagegapaa.Ext
open Go.RowKit Go.MapKept Go.Shelf Go.Proofs.YtanjkhdagegapaaW.PrintWords Go.Proofs.YtanjkhdagegapaaW.PrintLast Go.Proofs.YtanjkhdagegapaaW.PrintMore Go.Proofs.YtanjkhdagegapaaW.Hand Go.Proofs.Ytanjkhdagegapaa.PZ
set_option linter.unusedVariables false
set_option linter.unusedSimpArgs false
theorem rnum_calls (v : Int) (w : World) : Calls Try.prog 37 #[.int .i64 v] w fun e w' => ∃ v0 : Value, e = .returned v0 ∧ Kd.R (Kd.int .u8) 5 w' w.heap.size (fun _ => True) v0 (beN 8 (v % top64)) ∧ Below w.heap.size w w' := by
  have hc := u64_conv v
  have h1 := top_pos v
  go_enter Try.func37, Try.ntmps37
  go_wp2_with (go_at_call 60; (with_reducible refine (Number_calls (v % top64) 8 8 rfl _ (by decide) h1.1).mono ?_); rintro e w1 ⟨v0, rfl, ho, hb⟩; have HO := Aside0.mk ho; have HB := Aside0.mk hb; clear ho hb)
  go_ret
  exact ⟨_, rfl, HO.out, HB.out⟩
theorem small_top (d : Int) (h0 : 0 ≤ d) (h1 : d < 4294967296) : d % top64 = d := Int.emod_eq_of_lt h0 (by unfold top64; omega)
/-- Bytes put behind bytes, another block kept in sight. -/
theorem bytes_app {ops : Array Oper} {rest : List Oper} {o : Oper} {a : Act} {Q : Exit → Act → World → Prop} {w0 W : World} {base q t : Nat} {cs : Array Value} (hgd : o.guard = none) (s x : Operand)
    (ho : o.op = .call { callee := .builtin .append, args := #[s, x], argTypes := #[29, 29] }) (v : Value) (L ys : List Int) (A : Option Addr) (n c : Nat) (hs : a.eval s = v) (hx : a.eval x = .slice A n c) (hn : ys.length = n)
    (HV : Kd.R (Kd.int .u8) 5 W base (fun _ => True) v L) (HY : Kd.C (Kd.int .u8) W A ys.length ys) (HB : Below base w0 W) (hbase : base ≤ W.heap.size) (hl : L.length + ys.length ≤ 140737488355000)
    (HQ : W.heap[q]? = some (.cells cs t (0, 0))) (htt : 5 ≠ t)
    (K : ∀ v1 w1 L1, L ++ ys = L1 → L1.length = L.length + ys.length → Kd.R (Kd.int .u8) 5 w1 base (fun _ => True) v1 L1 → Below base w0 w1 → w1.heap[q]? = some (.cells cs t (0, 0)) → wpList Try.prog ops Q rest (a.put o.dst v1) w1) :
    wpList Try.prog ops Q (o :: rest) a W := by
  subst hn
  refine Kd.R_append_row (Value.int .u8) (0 : Int) (w0 := w0) base hgd s x 29 5 (.int .u8 0) 1 ho Try.underlying29 infoU8 rfl (by decide) v L ys A ys.length c (fun _ => True) hs hx (fun _ _ => trivial) HV HY HB hbase (by omega) ?_
  intro v1 w1 ho1 hb1 hg1 _
  exact K v1 w1 _ rfl (List.length_append ..) ho1 hb1 ((hg1.block q (Array.getElem?_eq_some_iff.1 HQ).1 (Kd.R_ne HV HQ htt)).trans HQ)
theorem rtext_at (A : Option Addr) (c : Nat) (s : List Int) {nb : Nat} (hnb : s.length = nb) (w : World) (hr : Kd.C (Kd.int .u8) w A s.length s) (hl : s.length ≤ 140737488355000) :
    Calls Try.prog 38 #[.slice A nb c] w fun e w' => ∃ v0 : Value, e = .returned v0 ∧ Kd.R (Kd.int .u8) 5 w' w.heap.size (fun _ => True) v0 (beN 4 s.length ++ s) ∧ Below w.heap.size w w' := by
  subst hnb
  exact RText_calls A c s w hr hl
set_option maxRecDepth 100000 in
set_option maxHeartbeats 6400000 in
theorem Reply_go (e d n m : Int) (t : ByteArray) (w : World) (hd0 : 0 ≤ d) (hd1 : d < 4294967296) (ht : t.size ≤ 1000000) :
    Calls Try.prog 21 #[.agg #[.int .i64 e, .int .u32 d, .int .i64 n, .int .i64 m, .string t]] w fun r w' => ∃ v : Value, r = .returned v ∧ Kd.R (Kd.int .u8) 5 w' w.heap.size (fun _ => True) v (rplB e d n m t) ∧ Below w.heap.size w w' := by
  have HL := Aside0.mk (below_alloc (Below.refl _ w) (.cells #[.int .i64 e, .int .u32 d, .int .i64 n, .int .i64 m, .string t] 42))
  have HQ := Aside0.mk (Blk.new_ (W := w) (o := .cells #[.int .i64 e, .int .u32 d, .int .i64 n, .int .i64 m, .string t] 42))
  have wd : IntKind.i64.wrap d = d := by rw [IntKind.wrap_i64]; omega
  have HTOP := Aside0.mk (small_top d hd0 hd1)
  have kc0 := fun (w : World) => Lib.run_convert_string_bytes (P := Try.prog) w 9 29 5 t Try.underlying9 Try.underlying29 Try.underlying5
  have hbt : (bytesOf t).length ≤ 1000000 := by rw [bytesOf_length]; exact ht
  have hts : Aside0 (∀ W : World, Kd.C (Kd.int .u8) (Lib.bytesWorld W 5 t) (some ⟨W.heap.size, 0, none⟩) (bytesOf t).length (bytesOf t)) := ⟨fun W => C_str W 5 t (by omega)⟩
  obtain ⟨nb, hnb⟩ : ∃ k, (bytesOf t).length = k := ⟨_, rfl⟩
  have kc : ∀ w : World, (convert 9 29 (.string t)).run Try.prog w = .ok (.slice (some ⟨w.heap.size, 0, none⟩) nb (grownCap w t.size 0 5)) (Lib.bytesWorld w 5 t) := fun w => by rw [← hnb, bytesOf_length]; exact kc0 w
  have HNB := Aside0.mk hnb
  have HBT := Aside0.mk hbt
  clear kc0 hnb hbt
  go_enter Try.func21, Try.ntmps21
  go_wp2_with fail
  (with_reducible refine (rnum_calls e _).mono ?_)
  rintro r w1 ⟨v1, rfl, hr1, hb1⟩
  have HB1 := Aside0.mk (below_step HL.out hb1)
  have HQ1 := Aside0.mk (HQ.out.below hb1).out
  have HV1 := Aside0.mk (Kd.R_lower (base' := w.heap.size) hr1 HL.out.size)
  obtain ⟨L1, hL1⟩ : ∃ L, beN 8 (e % top64) = L := ⟨_, rfl⟩
  have hl1 : L1.length = 8 := by rw [← hL1, beN_length]
  rw [hL1] at HV1
  have HE1 := Aside0.mk hL1
  have Hl1 := Aside0.mk hl1
  clear hL1 hr1 hb1 HQ hl1
  have qc2 := (cell_of_row w1 _ 1 _ _ _ HQ1.out).trans (rfl : _ = some (Value.int .u32 d))
  go_wp2_with fail
  (with_reducible refine (rnum_calls d _).mono ?_)
  rintro r x2 ⟨u2, rfl, hr, hb⟩
  obtain ⟨A2, c2, rfl⟩ := Kd.R_slice hr
  have HC2 := Aside0.mk (Kd.R_reads' hr).2.2
  have HV1b := Aside0.mk (Kd.R_below HV1.out hb)
  have HB1b := Aside0.mk (below_step HB1.out hb)
  have HQ1b := Aside0.mk ((hb.block _ (Array.getElem?_eq_some_iff.1 HQ1.out).1).trans HQ1.out)
  have hz2 : L1.length + (beN 8 (d % top64)).length ≤ 140737488355000 := by have := Hl1.out; rw [beN_length]; omega
  clear hr hb qc2
  go_wp2_with (at_builtin; refine bytes_app rfl (.tmp 7) (.tmp 11) rfl _ L1 (beN 8 (d % top64)) A2 _ c2 rfl rfl rfl HV1b.out HC2.out HB1b.out HB1b.out.size hz2 HQ1b.out (by decide) ?_; intro v2 w2 L2 hL hl ho hb hq; (have Hl2 := Aside0.mk (show L2.length = 8 * 2 by rw [hl, Hl1.out, beN_length])); (have HE2 := Aside0.mk hL); (have HV2 := Aside0.mk ho); (have HB2 := Aside0.mk hb); (have HQ2 := Aside0.mk hq); (have qn2 := (cell_of_row w2 _ 2 _ _ _ hq).trans (rfl : _ = some (Value.int .i64 n))); clear ho hb hq hL hl)
  (with_reducible refine (rnum_calls n _).mono ?_)
  rintro r x3 ⟨u3, rfl, hr, hb⟩
  obtain ⟨A3, c3, rfl⟩ := Kd.R_slice hr
  have HC3 := Aside0.mk (Kd.R_reads' hr).2.2
  have HV2b := Aside0.mk (Kd.R_below HV2.out hb)
  have HB2b := Aside0.mk (below_step HB2.out hb)
  have HQ2b := Aside0.mk ((hb.block _ (Array.getElem?_eq_some_iff.1 HQ2.out).1).trans HQ2.out)
  have hz3 : L2.length + (beN 8 (n % top64)).length ≤ 140737488355000 := by have := Hl2.out; rw [beN_length]; omega
  clear hr hb qn2
  go_wp2_with (at_builtin; refine bytes_app rfl (.tmp 13) (.tmp 16) rfl _ L2 (beN 8 (n % top64)) A3 _ c3 rfl rfl rfl HV2b.out HC3.out HB2b.out HB2b.out.size hz3 HQ2b.out (by decide) ?_; intro v3 w3 L3 hL hl ho hb hq; (have Hl3 := Aside0.mk (show L3.length = 8 * 3 by rw [hl, Hl2.out, beN_length])); (have HE3 := Aside0.mk hL); (have HV3 := Aside0.mk ho); (have HB3 := Aside0.mk hb); (have HQ3 := Aside0.mk hq); (have qn3 := (cell_of_row w3 _ 3 _ _ _ hq).trans (rfl : _ = some (Value.int .i64 m))); clear ho hb hq hL hl)
  (with_reducible refine (rnum_calls m _).mono ?_)
  rintro r x4 ⟨u4, rfl, hr, hb⟩
  obtain ⟨A4, c4, rfl⟩ := Kd.R_slice hr
  have HC4 := Aside0.mk (Kd.R_reads' hr).2.2
  have HV3b := Aside0.mk (Kd.R_below HV3.out hb)
  have HB3b := Aside0.mk (below_step HB3.out hb)
  have HQ3b := Aside0.mk ((hb.block _ (Array.getElem?_eq_some_iff.1 HQ3.out).1).trans HQ3.out)
  have hz4 : L3.length + (beN 8 (m % top64)).length ≤ 140737488355000 := by have := Hl3.out; rw [beN_length]; omega
  clear hr hb qn3
  go_wp2_with (at_builtin; refine bytes_app rfl (.tmp 18) (.tmp 21) rfl _ L3 (beN 8 (m % top64)) A4 _ c4 rfl rfl rfl HV3b.out HC4.out HB3b.out HB3b.out.size hz4 HQ3b.out (by decide) ?_; intro v4 w4 L4 hL hl ho hb hq; (have Hl4 := Aside0.mk (show L4.length = 8 * 4 by rw [hl, Hl3.out, beN_length])); (have HE4 := Aside0.mk hL); (have HV4 := Aside0.mk ho); (have HB4 := Aside0.mk hb); (have HQ4 := Aside0.mk hq); (have qn4 := (cell_of_row w4 _ 4 _ _ _ hq).trans (rfl : _ = some (Value.string t))); clear ho hb hq hL hl)
  (with_reducible refine (rtext_at (some ⟨w4.heap.size, 0, none⟩) _ (bytesOf t) HNB.out _ (hts.out w4) (by have := HBT.out; omega)).mono ?_)
  rintro r x5 ⟨u5, rfl, hr, hb⟩
  obtain ⟨A5, c5, rfl⟩ := Kd.R_slice hr
  have hb' := below_step (str_below w4 5 t) hb
  have HC5 := Aside0.mk (Kd.R_reads' hr).2.2
  have HV4b := Aside0.mk (Kd.R_below HV4.out hb')
  have HB4b := Aside0.mk (below_step HB4.out hb')
  have HQ4b := Aside0.mk ((hb'.block _ (Array.getElem?_eq_some_iff.1 HQ4.out).1).trans HQ4.out)
  have hz5 : L4.length + (beN 4 (bytesOf t).length ++ bytesOf t).length ≤ 140737488355000 := by have := Hl4.out; have := HBT.out; rw [List.length_append, beN_length]; omega
  clear hr hb hb' qn4
  go_wp2_with (at_builtin; refine bytes_app rfl (.tmp 23) (.tmp 27) rfl _ L4 (beN 4 (bytesOf t).length ++ bytesOf t) A5 _ c5 rfl rfl (by simp [beN_length]) HV4b.out HC5.out HB4b.out HB4b.out.size hz5 HQ4b.out (by decide) ?_; intro v5 w5 L5 hL hl ho hb hq; (have HE5 := Aside0.mk hL); (have HV5 := Aside0.mk ho); (have HB5 := Aside0.mk hb); clear ho hb hq hL hl)
  go_ret
  refine ⟨_, rfl, ?_, HB5.out⟩
  have HE : rplB e d n m t = L5 := by
    unfold rplB
    rw [← HE5.out, ← HE4.out, ← HE3.out, ← HE2.out, ← HE1.out, HTOP.out]
    simp only [List.append_assoc]
  rw [HE]
  exact HV5.out
end Go.Proofs.Ytanjkhdagegapaa.Ext
end

section
/- The contracts about replies, in the print's form. -/
namespace Go.Proofs.Ytanjkhdagegapaa.Ext
open Go.RowKit Go.Shelf Go.Proofs.YtanjkhdagegapaaW.PrintWords Go.Proofs.YtanjkhdagegapaaW.PrintLast Go.Proofs.YtanjkhdagegapaaW.PrintMore Go.Proofs.YtanjkhdagegapaaW.Hand Go.Proofs.Ytanjkhdagegapaa.PZ
set_option linter.unusedVariables false
def rplOk (d : Int) (t : ByteArray) : Bool := decide (0 ≤ d) && decide (d < 4294967296) && decide (t.size ≤ 1000000)
theorem rplOk_iff {d : Int} {t : ByteArray} (h : rplOk d t = true) : 0 ≤ d ∧ d < 4294967296 ∧ t.size ≤ 1000000 := by
  unfold rplOk at h
  simp only [Bool.and_eq_true, decide_eq_true_eq] at h
  exact ⟨h.1.1, h.1.2, h.2⟩
def msg_PutReply.f (e d n m : Int) (t : ByteArray) : Option (List Int) := if rplOk d t = true then some (rplB e d n m t) else none
theorem msg_PutReply.calls (e d n m : Int) (t : ByteArray) (r : List Int) (w : World) (h : msg_PutReply.f e d n m t = some r) :
    Calls Try.prog 20 #[.agg #[.int .i64 e, .int .u32 d, .int .i64 n, .int .i64 m, .string t]] w fun q w' => ∃ v : Value, q = .returned v ∧ Kd.R (Kd.int .u8) 5 w' w.heap.size (fun _ => True) v r ∧ Below w.heap.size w w' := by
  unfold msg_PutReply.f at h
  by_cases h1 : rplOk d t = true
  · rw [if_pos h1] at h
    obtain rfl := Option.some.inj h
    obtain ⟨a, b, c⟩ := rplOk_iff h1
    exact PutReply_go e d n m t w a b c
  · rw [if_neg h1] at h; cases h
def quitrentref25_Reply.f (e d n m : Int) (t : ByteArray) : Option (List Int) := if rplOk d t = true then some (rplB e d n m t) else none
theorem quitrentref25_Reply.calls (e d n m : Int) (t : ByteArray) (r : List Int) (w : World) (h : quitrentref25_Reply.f e d n m t = some r) :
    Calls Try.prog 21 #[.agg #[.int .i64 e, .int .u32 d, .int .i64 n, .int .i64 m, .string t]] w fun q w' => ∃ v : Value, q = .returned v ∧ Kd.R (Kd.int .u8) 5 w' w.heap.size (fun _ => True) v r ∧ Below w.heap.size w w' := by
  unfold quitrentref25_Reply.f at h
  by_cases h1 : rplOk d t = true
  · rw [if_pos h1] at h
    obtain rfl := Option.some.inj h
    obtain ⟨a, b, c⟩ := rplOk_iff h1
    exact Reply_go e d n m t w a b c
  · rw [if_neg h1] at h; cases h
def byOk (l : List Int) : Bool := l.all fun x => decide (0 ≤ x) && decide (x < 256)
theorem byOk_iff {l : List Int} (h : byOk l = true) : ∀ x ∈ l, IsByte x := fun x hx => by
  have := List.all_eq_true.1 h x hx
  simpa [IsByte] using this
theorem byOk_of {l : List Int} (h : ∀ x ∈ l, IsByte x) : byOk l = true := List.all_eq_true.2 fun x hx => by
  have := h x hx
  simpa [IsByte] using this
def msg_GetReply.f (l : List Int) : Option (Int × Int × Int × Int × ByteArray × Int) := if byOk l = true ∧ l.length ≤ 140737488353000 then some ((gget l).1.1, (gget l).1.2.1, (gget l).1.2.2.1, (gget l).1.2.2.2.1, (gget l).1.2.2.2.2, (gget l).2) else none
theorem msg_GetReply.calls (A : Option Addr) (c : Nat) (l : List Int) (t0 t1 t2 t3 : Int) (t4 : ByteArray) (t5 : Int) (w : World) (hC : Kd.C (Kd.int .u8) w A l.length l) (hc : l.length ≤ c) (h : msg_GetReply.f l = some (t0, t1, t2, t3, t4, t5)) :
    Calls Try.prog 14 #[.slice A l.length c] w fun q w' => q = .returned (.tuple #[.agg #[.int .i64 t0, .int .u32 t1, .int .i64 t2, .int .i64 t3, .string t4], .int .i64 t5]) ∧ Below w.heap.size w w' := by
  unfold msg_GetReply.f at h
  by_cases h1 : byOk l = true ∧ l.length ≤ 140737488353000
  · rw [if_pos h1] at h
    have h := Option.some.inj h
    simp only [Prod.mk.injEq] at h
    obtain ⟨rfl, rfl, rfl, rfl, rfl, rfl⟩ := h
    exact GetReply_go A c l w hC (byOk_iff h1.1) h1.2
  · rw [if_neg h1] at h; cases h
def quitrentlaw25_goes.f : Option Bool := some true
theorem quitrentlaw25_goes.calls (r : Bool) (w : World) (h : quitrentlaw25_goes.f = some r) : Calls Try.prog 11 #[] w fun e w' => e = .returned (.bool r) ∧ Below w.heap.size w w' := by
  obtain rfl := Option.some.inj h
  exact goes_true w
end Go.Proofs.Ytanjkhdagegapaa.Ext
end

section
/- Replies: what was put is read; what is read is what was put. -/
namespace Go.Proofs.Ytanjkhdagegapaa.Ext
open Go.RowKit Go.Proofs.YtanjkhdagegapaaW.PrintWords Go.Proofs.YtanjkhdagegapaaW.PrintLast Go.Proofs.YtanjkhdagegapaaW.PrintMore Go.Proofs.YtanjkhdagegapaaW.Hand Go.Proofs.Ytanjkhdagegapaa.PZ
set_option linter.unusedVariables false
theorem gget_rpl (e d n m : Int) (t : ByteArray) (he : -2147483648 ≤ e ∧ e ≤ 2147483647) (hd : 0 ≤ d ∧ d < 4294967296) (hn : -9223372036854775808 ≤ n ∧ n ≤ 9223372036854775807) (hm : -9223372036854775808 ≤ m ∧ m ≤ 9223372036854775807) (ht : t.size ≤ 1000000) :
    gget (rplB e d n m t) = ((e, d, n, m, t), 0) := by
  have e0 : rplB e d n m t = beN 8 (e % top64) ++ (beN 8 d ++ (beN 8 (n % top64) ++ (beN 8 (m % top64) ++ (beN 4 (bytesOf t).length ++ (bytesOf t ++ []))))) := by
    unfold rplB; simp only [List.append_assoc, List.append_nil]
  rw [e0]
  unfold gget
  rw [int_app e _ (by omega) (by omega)]
  dsimp only
  rw [uint_app d _ hd.1 (by omega)]
  dsimp only
  rw [int_app n _ hn.1 hn.2]
  dsimp only
  rw [int_app m _ hm.1 hm.2]
  dsimp only
  rw [text_app (bytesOf t) [] (by rw [bytesOf_length]; omega)]
  dsimp only
  have h1 : ¬ (({ xs := ([] : List Int), bad := false } : Rs).done ≠ 0 ∨ 4294967295 < d ∨ IntKind.i32.wrap e ≠ e) := by
    rintro (h | h | h)
    · exact h (by simp [Rs.done])
    · omega
    · exact h (by rw [IntKind.wrap_i32]; omega)
  rw [if_neg h1, str_bytes, Int.emod_eq_of_lt hd.1 hd.2]
theorem gget_sound (l : List Int) (hb : ∀ x ∈ l, IsByte x) : gget l = ((0, 0, 0, 0, { data := #[] }), 21) ∨ ∃ e d n m t, gget l = ((e, d, n, m, t), 0) ∧ (0 ≤ d ∧ d < 4294967296) ∧ t.size ≤ l.length ∧ rplB e d n m t = l := by
  obtain ⟨r0, hr0⟩ : ∃ r : Rs, r = ⟨l, false⟩ := ⟨_, rfl⟩
  have hg : gget l = (if r0.int.2.uint.2.int.2.int.2.text.2.done ≠ 0 ∨ 4294967295 < r0.int.2.uint.1 ∨ IntKind.i32.wrap r0.int.1 ≠ r0.int.1 then ((0, 0, 0, 0, { data := #[] }), 21) else ((r0.int.1, r0.int.2.uint.1 % 4294967296, r0.int.2.uint.2.int.1, r0.int.2.uint.2.int.2.int.1, strOfNums r0.int.2.uint.2.int.2.int.2.text.1), 0)) := by rw [hr0]; rfl
  by_cases hc : r0.int.2.uint.2.int.2.int.2.text.2.done ≠ 0 ∨ 4294967295 < r0.int.2.uint.1 ∨ IntKind.i32.wrap r0.int.1 ≠ r0.int.1
  · left; rw [hg, if_pos hc]
  · right
    rw [if_neg hc] at hg
    have hd : r0.int.2.uint.2.int.2.int.2.text.2.done = 0 := by
      by_cases h : r0.int.2.uint.2.int.2.int.2.text.2.done = 0
      · exact h
      · exact absurd (Or.inl h) hc
    have hs : ¬ 4294967295 < r0.int.2.uint.1 := fun h => hc (.inr (.inl h))
    obtain ⟨g5, x5⟩ := MM.done_zero hd
    have b5 := MM.text_good.was _ g5
    have b4 := MM.int_good.was _ b5
    have b3 := MM.int_good.was _ b4
    have b2 := MM.uint_good.was _ b3
    have hb0 : ∀ x ∈ r0.xs, IsByte x := by rw [hr0]; exact hb
    obtain ⟨t1, p1⟩ := MM.int_good.took r0 hb0 b2
    have y1 := MM.int_good.rest hb0 b2
    obtain ⟨t2, p2⟩ := MM.uint_good.took _ y1 b3
    have y2 := MM.uint_good.rest y1 b3
    obtain ⟨t3, p3⟩ := MM.int_good.took _ y2 b4
    have y3 := MM.int_good.rest y2 b4
    obtain ⟨t4, p4⟩ := MM.int_good.took _ y3 b5
    have y4 := MM.int_good.rest y3 b5
    obtain ⟨t5, p5⟩ := MM.text_good.took _ y4 g5
    have hl : rplB r0.int.1 (r0.int.2.uint.1 % 4294967296) r0.int.2.uint.2.int.1 r0.int.2.uint.2.int.2.int.1 (strOfNums r0.int.2.uint.2.int.2.int.2.text.1) = l := by
      unfold rplB
      rw [MM.str_nums _ p5.1, Int.emod_eq_of_lt p2.1 (by omega)]
      have hx : r0.xs = l := by rw [hr0]
      rw [← hx, t1, t2, t3, t4, t5, x5]
      simp only [List.append_assoc, List.append_nil]
    refine ⟨_, _, _, _, _, hg, ⟨by omega, by omega⟩, ?_, hl⟩
    have hz := congrArg List.length hl
    unfold rplB at hz
    simp only [List.length_append, beN_length, bytesOf_length] at hz
    omega
theorem rplB_bytes (e d n m : Int) (t : ByteArray) : ∀ v ∈ rplB e d n m t, IsByte v := by
  intro v hv
  unfold rplB at hv
  simp only [List.mem_append] at hv
  rcases hv with ((((h | h) | h) | h) | h) | h
  · exact beN_bytes _ _ _ h
  · exact beN_bytes _ _ _ h
  · exact beN_bytes _ _ _ h
  · exact beN_bytes _ _ _ h
  · exact beN_bytes _ _ _ h
  · exact bytesOf_bytes _ _ h
theorem rplB_len (e d n m : Int) (t : ByteArray) : (rplB e d n m t).length = 36 + t.size := by
  unfold rplB
  simp only [List.length_append, beN_length, bytesOf_length]
end Go.Proofs.Ytanjkhdagegapaa.Ext
end
