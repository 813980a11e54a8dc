/- quitrentlaw01.takes, walked. -/
import Derived.Test.YtbiidbiammppiaaSpoilt
import Derived.Test.YtbiidbiammppiaaStructs
import Derived.Deep.RegionWith
namespace Go.Proofs.Ytbiidbiammppiaa.Ext
open Go.RowKit Go.Proofs.YtbiidbiammppiaaW.PrintWords Go.Proofs.YtbiidbiammppiaaW.PrintLast Go.Proofs.YtbiidbiammppiaaW.PrintMore Go.Proofs.YtbiidbiammppiaaW.Hand
set_option linter.unusedVariables false
/-- A row of values: of each its kind, its number, its text. -/
def ValsAt (w : World) (a : Option Addr) (L : List (Int × Int × ByteArray)) : Prop :=
  (∀ p ∈ L, 0 ≤ p.1 ∧ p.1 < 256 ∧ 0 ≤ p.2.1 ∧ p.2.1 < 18446744073709551616 ∧ p.2.2.size ≤ 9223372036854775807) ∧
  (0 < L.length → ∃ b o, a = some ⟨b, o, none⟩ ∧ ∀ i (p : Int × Int × ByteArray), L[i]? = some p → w.cell? ⟨b, o + i * 3, none⟩ = some (.int .u8 p.1) ∧ w.cell? ⟨b, o + i * 3 + 1, none⟩ = some (.int .u64 p.2.1) ∧ w.cell? ⟨b, o + i * 3 + 2, none⟩ = some (.string p.2.2))
theorem vals_open {H : Type} {enc : TypeId × Value → H} {W : World} {a : Option Addr} {len cap : Nat} {d : DataW H} {p : List MemPlace}
    (h : DataW.Trod enc Try.prog W 0 (fun _ => true) true 37 (.slice a len cap) d p) : ∃ L, L.length = len ∧ ValsAt W a L := by
  have hc : Try.prog.cellsOf 39 = 3 := by kernel_rfl
  obtain ⟨_, _, h0⟩ := Open.slice_at Try.underlying37 (by rw [hc]; decide) h
  rw [hc] at h0
  by_cases hl : 0 < len
  · obtain ⟨b, o, rfl, hx⟩ := h0 hl
    have each : ∀ i, i < len → ∃ p : Int × Int × ByteArray, (0 ≤ p.1 ∧ p.1 < 256 ∧ 0 ≤ p.2.1 ∧ p.2.1 < 18446744073709551616 ∧ p.2.2.size ≤ 9223372036854775807) ∧ W.cell? ⟨b, o + i * 3, none⟩ = some (.int .u8 p.1) ∧ W.cell? ⟨b, o + i * 3 + 1, none⟩ = some (.int .u64 p.2.1) ∧ W.cell? ⟨b, o + i * 3 + 2, none⟩ = some (.string p.2.2) := by
      intro i hi
      obtain ⟨cs, n, y, hlen, hcell, ht⟩ := hx i hi
      have e0 : cs[0]? = some cs[0] := List.getElem?_eq_getElem (by omega)
      have e1 : cs[1]? = some cs[1] := List.getElem?_eq_getElem (by omega)
      have e2 : cs[2]? = some cs[2] := List.getElem?_eq_getElem (by omega)
      obtain ⟨y0, m0, t0⟩ := Open.field_at Try.underlying39 ht 0 _ rfl (by kernel_rfl) _ e0
      obtain ⟨y1, m1, t1⟩ := Open.field_at Try.underlying39 ht 1 _ rfl (by kernel_rfl) _ e1
      obtain ⟨y2, m2, t2⟩ := Open.field_at Try.underlying39 ht 2 _ rfl (by kernel_rfl) _ e2
      obtain ⟨c, h0, _, w0⟩ := DataW.trod_int Try.underlying5 t0
      obtain ⟨z, h1, _, w1⟩ := DataW.trod_int Try.underlying28 t1
      obtain ⟨s, h2, _, w2⟩ := DataW.trod_string Try.underlying9 t2
      simp only [List.cons.injEq, and_true] at h0 h1 h2
      have c0 := (hcell 0 (by omega)).trans e0
      have c1 := (hcell 1 (by omega)).trans e1
      have c2 := (hcell 2 (by omega)).trans e2
      rw [h0] at c0
      rw [h1] at c1
      rw [h2] at c2
      have i1 : IntKind.u8.min = 0 := rfl
      have i2 : IntKind.u8.max = 255 := rfl
      have i3 : IntKind.u64.min = 0 := rfl
      have i4 : IntKind.u64.max = 18446744073709551615 := rfl
      simp only [Lit.wf, Bool.and_eq_true, decide_eq_true_eq, i1, i2, i3, i4] at w0 w1
      exact ⟨(c, z, s), ⟨w0.1, by show c < 256; omega, w1.1, by show z < 18446744073709551616; omega, by simpa [maxLen] using w2⟩, c0, by rw [Nat.add_assoc]; exact c1, by rw [Nat.add_assoc]; exact c2⟩
    have : Inhabited (Int × Int × ByteArray) := ⟨(0, 0, ⟨#[]⟩)⟩
    obtain ⟨q, hq⟩ := Go.Deep.choose_lt each
    refine ⟨(List.range len).map q, by simp, ?_, fun _ => ⟨b, o, rfl, ?_⟩⟩
    · intro p hp
      obtain ⟨i, hi, rfl⟩ := List.mem_map.1 hp
      exact (hq i (List.mem_range.1 hi)).1
    · intro i p hp
      rw [List.getElem?_map] at hp
      obtain ⟨j, hj, rfl⟩ := Option.map_eq_some_iff.1 hp
      have hil : i < len := by
        have := (List.getElem?_eq_some_iff.1 hj).1
        simpa using this
      rw [List.getElem?_range hil] at hj
      injection hj with hj
      subst hj
      exact (hq _ hil).2
  · exact ⟨[], by simp; omega, fun p h => (by cases h), fun h => absurd h (by decide)⟩
theorem keep_one {w w' : World} {g : Nat} (h : w.grownBy w' (some g)) : KeepBut w w' g none := ⟨h.size, fun i hi hne _ => h.block i hi (fun e => hne (by injection e))⟩
def tstep (s : Bool × Rs) (p : Int × Int × ByteArray) : Bool × Rs :=
  if p.1.tmod 4 = 0 then ((s.2.byte.1 == IntKind.u8.wrap p.2.1) && s.1, s.2.byte.2)
  else if p.1.tmod 4 = 1 then ((s.2.uint.1 == p.2.1) && s.1, s.2.uint.2)
  else if p.1.tmod 4 = 2 then ((s.2.int.1 == IntKind.i64.wrap p.2.1) && s.1, s.2.int.2)
  else (((strOfNums s.2.text.1).toList == p.2.2.toList) && s.1, s.2.text.2)
theorem tstep_len (s : Bool × Rs) (p : Int × Int × ByteArray) : (tstep s p).2.xs.length ≤ s.2.xs.length := by
  have ht : ∀ n, (s.2.take n).2.xs.length ≤ s.2.xs.length := fun n => take_len s.2 n
  have hb : s.2.byte.2 = (s.2.take 1).2 := by unfold Rs.byte; generalize s.2.take 1 = t; obtain ⟨x, y⟩ := t; cases x <;> rfl
  have hu : s.2.uint.2 = (s.2.take 8).2 := by unfold Rs.uint; generalize s.2.take 8 = t; obtain ⟨x, y⟩ := t; cases x <;> rfl
  have hi : s.2.int.2 = (s.2.take 8).2 := by unfold Rs.int; generalize s.2.take 8 = t; obtain ⟨x, y⟩ := t; cases x <;> rfl
  have hx := text_len s.2
  unfold tstep
  split
  · rw [hb]; exact ht 1
  · split
    · rw [hu]; exact ht 8
    · split
      · rw [hi]; exact ht 8
      · simp only []; omega
def tks (r : Rs) (L : List (Int × Int × ByteArray)) : Bool × Rs := L.foldl tstep (true, r)
theorem tks_len (r : Rs) (L : List (Int × Int × ByteArray)) : (tks r L).2.xs.length ≤ r.xs.length := by
  unfold tks
  have : ∀ s : Bool × Rs, (L.foldl tstep s).2.xs.length ≤ s.2.xs.length := by
    induction L with
    | nil => intro s; exact Nat.le_refl _
    | cons p L ih => intro s; exact Nat.le_trans (ih _) (tstep_len s p)
  exact this (true, r)
theorem tks_snoc (r : Rs) (L : List (Int × Int × ByteArray)) (k : Nat) (p : Int × Int × ByteArray) (h : L[k]? = some p) : tks r (L.take (k + 1)) = tstep (tks r (L.take k)) p := by
  unfold tks
  obtain ⟨hk, e⟩ := List.getElem?_eq_some_iff.1 h
  rw [List.take_succ_eq_append_getElem hk, List.foldl_append, e]
  rfl
set_option maxRecDepth 100000 in
set_option maxHeartbeats 3200000 in
theorem takes_calls (w0 : World) (g : Nat) (B : Nat → Prop) (r : Rs) (a : Option Addr) (cp : Nat) (L : List (Int × Int × ByteArray)) (w : World) (hR : RdrS w g B r) (hm : r.xs.length ≤ 140737488355000) (hL : ValsAt w0 a L) (hl : L.length ≤ 100) (hb : Below w0.heap.size w0 w) (hg0 : w0.heap.size ≤ g) :
    Calls Try.prog 19 #[.pointer (some ⟨g, 0, none⟩), .slice a L.length cp] w fun e w' => e = .returned (.bool (tks r L).1) ∧ RdrS w' g B (tks r L).2 ∧ Below w0.heap.size w0 w' ∧ KeepBut w w' g none := by
  have HR := Aside0.mk hR
  have HL := Aside0.mk hL
  have HB := Aside0.mk hb
  have HM := Aside0.mk (fun k => Nat.le_trans (tks_len r (L.take k)) hm)
  clear hR hL hb
  go_enter Try.func19, Try.ntmps19
  go_wp2_with fail
  go_loopw [5, 6] (fun o i wr => ∃ k : Nat, k ≤ L.length ∧ i = .int .i64 k ∧ o = .bool (tks r (L.take k)).1 ∧ Aside0 (RdrS wr g B (tks r (L.take k)).2) ∧ Aside0 (Below w0.heap.size w0 wr) ∧ Aside0 (KeepBut w wr g none)) (fun _ i _ => L.length - (intOf i).toNat)
  case atStart => exact ⟨0, by omega, rfl, rfl, HR, HB, ⟨KeepBut.refl _ _ _⟩⟩
  case round =>
    obtain ⟨k, hk, rfl, rfl, HS, HBW, HK⟩ := hrel
    by_cases hlt : k < L.length
    · obtain ⟨b, o, e1, hc⟩ := HL.out.2 (by omega)
      cases e1
      obtain ⟨p, hp⟩ : ∃ p, L[k]? = some p := ⟨_, List.getElem?_eq_getElem hlt⟩
      obtain ⟨ha, hn, hs⟩ := hc k p hp
      obtain ⟨m1, m2, m3, m4, m5⟩ := HL.out.1 p (List.mem_of_getElem? hp)
      have HST := Aside0.mk (tks_snoc r L k p hp)
      have hml := HM.out k
      obtain ⟨p1, p2, p3⟩ := p
      obtain ⟨⟨ok, rr⟩, ht⟩ : ∃ t, tks r (L.take k) = t := ⟨_, rfl⟩
      rw [ht] at HS HST hml ⊢
      simp only at HS hml ha hn hs m1 m2 m3 m4 m5 ⊢
      have na := (HBW.out.cell (World.block_lt_of_cell? w0 _ ha)).trans ha
      have nn := (HBW.out.cell (World.block_lt_of_cell? w0 _ hn)).trans hn
      have ns := (HBW.out.cell (World.block_lt_of_cell? w0 _ hs)).trans hs
      have HHN := Aside0.mk hn
      have HHS := Aside0.mk hs
      have hx : p1.tmod 4 = 0 ∨ p1.tmod 4 = 1 ∨ p1.tmod 4 = 2 ∨ p1.tmod 4 = 3 := by rw [Int.tmod_eq_emod_of_nonneg m1]; omega
      clear ha hn hs hc hp ht m1 m2 m3 m4 m5
      rcases hx with hx | hx | hx | hx
      · have hst : tstep (ok, rr) (p1, p2, p3) = ((rr.byte.1 == IntKind.u8.wrap p2) && ok, rr.byte.2) := if_pos hx
        rw [hst] at HST
        clear hst
        generalize hq : (rr.byte.1 == IntKind.u8.wrap p2) = q at HST
        cases q
        all_goals
          go_wp2_with fail
          first | (go_region_with (go_at_call 24; refine (Byte_calls g B rr _ HS.out.drew hml).mono ?_; rintro e w3 ⟨rfl, hR, hG⟩; (have HS3 := Aside0.mk hR); (have HK3 := Aside0.mk ((keep_drew HK.out).trans (keep_one hG) (.inl rfl))); (have HB3 := Aside0.mk ((below_drew HBW.out).grown hG (below_drew HBW.out).size (fun k hk => by injection hk with hk; omega))); (have nn3 := (HB3.out.cell (World.block_lt_of_cell? w0 _ HHN.out)).trans HHN.out); clear hR hG)) | fail
          all_goals
            go_wp2_with fail
            go_roundw
            case rel => exact ⟨k + 1, by omega, by go_num, by rw [HST.out]; rfl, by rw [HST.out]; exact HS3, HB3, HK3⟩
            case measure => simp [intOf]; omega
      · have hst : tstep (ok, rr) (p1, p2, p3) = ((rr.uint.1 == p2) && ok, rr.uint.2) := by unfold tstep; rw [if_neg (by rw [hx]; decide), if_pos hx]
        rw [hst] at HST
        clear hst
        generalize hq : (rr.uint.1 == p2) = q at HST
        cases q
        all_goals
          go_wp2_with fail
          first | (go_region_with (go_at_call 25; refine (Uint_calls g B rr _ HS.out.drew hml).mono ?_; rintro e w3 ⟨rfl, hR, hG⟩; (have HS3 := Aside0.mk hR); (have HK3 := Aside0.mk ((keep_drew HK.out).trans (keep_one hG) (.inl rfl))); (have HB3 := Aside0.mk ((below_drew HBW.out).grown hG (below_drew HBW.out).size (fun k hk => by injection hk with hk; omega))); (have nn3 := (HB3.out.cell (World.block_lt_of_cell? w0 _ HHN.out)).trans HHN.out); clear hR hG)) | fail
          all_goals
            go_wp2_with fail
            go_roundw
            case rel => exact ⟨k + 1, by omega, by go_num, by rw [HST.out]; rfl, by rw [HST.out]; exact HS3, HB3, HK3⟩
            case measure => simp [intOf]; omega
      · have hst : tstep (ok, rr) (p1, p2, p3) = ((rr.int.1 == IntKind.i64.wrap p2) && ok, rr.int.2) := by unfold tstep; rw [if_neg (by rw [hx]; decide), if_neg (by rw [hx]; decide), if_pos hx]
        rw [hst] at HST
        clear hst
        generalize hq : (rr.int.1 == IntKind.i64.wrap p2) = q at HST
        cases q
        all_goals
          go_wp2_with fail
          first | (go_region_with (go_at_call 26; refine (Int_calls g B rr _ HS.out.drew hml).mono ?_; rintro e w3 ⟨rfl, hR, hG⟩; (have HS3 := Aside0.mk hR); (have HK3 := Aside0.mk ((keep_drew HK.out).trans (keep_one hG) (.inl rfl))); (have HB3 := Aside0.mk ((below_drew HBW.out).grown hG (below_drew HBW.out).size (fun k hk => by injection hk with hk; omega))); (have nn3 := (HB3.out.cell (World.block_lt_of_cell? w0 _ HHN.out)).trans HHN.out); clear hR hG)) | fail
          all_goals
            go_wp2_with fail
            go_roundw
            case rel => exact ⟨k + 1, by omega, by go_num, by rw [HST.out]; rfl, by rw [HST.out]; exact HS3, HB3, HK3⟩
            case measure => simp [intOf]; omega
      · have hst : tstep (ok, rr) (p1, p2, p3) = (((strOfNums rr.text.1).toList == p3.toList) && ok, rr.text.2) := by unfold tstep; rw [if_neg (by rw [hx]; decide), if_neg (by rw [hx]; decide), if_neg (by rw [hx]; decide)]
        rw [hst] at HST
        clear hst
        obtain ⟨S, hS⟩ : ∃ S, strOfNums rr.text.1 = S := ⟨_, rfl⟩
        rw [hS] at HST
        have HSt := Aside0.mk hS
        clear hS
        generalize hq : (S.toList == p3.toList) = q at HST
        cases q
        all_goals
          go_wp2_with fail
          first | (go_region_with (go_at_call 11; refine (Text_calls g B rr _ HS.out.drew hml).mono ?_; rintro e w3 ⟨v3, rfl, hV, hR, hG⟩; (have hcv := str_own hV); rw [HSt.out] at hcv; (have HS3 := Aside0.mk hR); (have HK3 := Aside0.mk ((keep_drew HK.out).trans (keep_one hG) (.inl rfl))); (have HB3 := Aside0.mk ((below_drew HBW.out).grown hG (below_drew HBW.out).size (fun k hk => by injection hk with hk; omega))); (have nn3 := (HB3.out.cell (World.block_lt_of_cell? w0 _ HHS.out)).trans HHS.out); clear hV hR hG)) | fail
          all_goals
            go_wp2_with fail
            go_roundw
            case rel => exact ⟨k + 1, by omega, by go_num, by rw [HST.out]; rfl, by rw [HST.out]; exact HS3, HB3, HK3⟩
            case measure => simp [intOf]; omega
    · obtain rfl : k = L.length := by omega
      rw [List.take_length] at HS ⊢
      go_wp2_with fail
      go_ret
      exact ⟨rfl, HS.out, HBW.out, HK.out⟩
end Go.Proofs.Ytbiidbiammppiaa.Ext
