/- GatePlays: acts that come in; 'great'. -/
import Derived.Test.YtpadajkdpldliaaRGate2
import Derived.Test.YtpadajkdpldliaaGetMath
import Derived.Test.YtpadajkdpldliaaStructs
import Derived.Deep.SlicePairs
import Derived.Deep.RegionWith
namespace Go.Proofs.Ytpadajkdpldliaa.Ext
open Go.RowKit Go.Proofs.YtpadajkdpldliaaW.PrintWords Go.Proofs.YtpadajkdpldliaaW.PrintLast Go.Proofs.YtpadajkdpldliaaW.PrintMore Go.Proofs.YtpadajkdpldliaaW.Hand
set_option linter.unusedVariables false
/-- A row of values: of each its kind, its number, its text. -/
def ActsAt (w : World) (a : Option Addr) (L : List (Int × Int × ByteArray)) : Prop :=
  (∀ p ∈ L, 0 ≤ p.1 ∧ p.1 < 256 ∧ 0 ≤ p.2.1 ∧ p.2.1 < 18446744073709551616 ∧ p.2.2.size ≤ 9223372036854775807) ∧
  (0 < L.length → ∃ b o, a = some ⟨b, o, none⟩ ∧ ∀ i (p : Int × Int × ByteArray), L[i]? = some p → w.cell? ⟨b, o + i * 3, none⟩ = some (.int .u8 p.1) ∧ w.cell? ⟨b, o + i * 3 + 1, none⟩ = some (.int .u64 p.2.1) ∧ w.cell? ⟨b, o + i * 3 + 2, none⟩ = some (.string p.2.2))
theorem acts_open {H : Type} {enc : TypeId × Value → H} {W : World} {a : Option Addr} {len cap : Nat} {d : DataW H} {p : List MemPlace}
    (h : DataW.Trod enc Try.prog W 0 (fun _ => true) true 22 (.slice a len cap) d p) : ∃ L, L.length = len ∧ ActsAt W a L := by
  have hc : Try.prog.cellsOf 36 = 3 := by kernel_rfl
  obtain ⟨_, _, h0⟩ := Open.slice_at Try.underlying22 (by rw [hc]; decide) h
  rw [hc] at h0
  by_cases hl : 0 < len
  · obtain ⟨b, o, rfl, hx⟩ := h0 hl
    have each : ∀ i, i < len → ∃ p : Int × Int × ByteArray, (0 ≤ p.1 ∧ p.1 < 256 ∧ 0 ≤ p.2.1 ∧ p.2.1 < 18446744073709551616 ∧ p.2.2.size ≤ 9223372036854775807) ∧ W.cell? ⟨b, o + i * 3, none⟩ = some (.int .u8 p.1) ∧ W.cell? ⟨b, o + i * 3 + 1, none⟩ = some (.int .u64 p.2.1) ∧ W.cell? ⟨b, o + i * 3 + 2, none⟩ = some (.string p.2.2) := by
      intro i hi
      obtain ⟨cs, n, y, hlen, hcell, ht⟩ := hx i hi
      have e0 : cs[0]? = some cs[0] := List.getElem?_eq_getElem (by omega)
      have e1 : cs[1]? = some cs[1] := List.getElem?_eq_getElem (by omega)
      have e2 : cs[2]? = some cs[2] := List.getElem?_eq_getElem (by omega)
      obtain ⟨y0, m0, t0⟩ := Open.field_at Try.underlying36 ht 0 _ rfl (by kernel_rfl) _ e0
      obtain ⟨y1, m1, t1⟩ := Open.field_at Try.underlying36 ht 1 _ rfl (by kernel_rfl) _ e1
      obtain ⟨y2, m2, t2⟩ := Open.field_at Try.underlying36 ht 2 _ rfl (by kernel_rfl) _ e2
      obtain ⟨c, h0, _, w0⟩ := DataW.trod_int Try.underlying5 t0
      obtain ⟨z, h1, _, w1⟩ := DataW.trod_int Try.underlying34 t1
      obtain ⟨s, h2, _, w2⟩ := DataW.trod_string Try.underlying9 t2
      simp only [List.cons.injEq, and_true] at h0 h1 h2
      have c0 := (hcell 0 (by omega)).trans e0
      have c1 := (hcell 1 (by omega)).trans e1
      have c2 := (hcell 2 (by omega)).trans e2
      rw [h0] at c0
      rw [h1] at c1
      rw [h2] at c2
      have i1 : IntKind.u8.min = 0 := rfl
      have i2 : IntKind.u8.max = 255 := rfl
      have i3 : IntKind.u64.min = 0 := rfl
      have i4 : IntKind.u64.max = 18446744073709551615 := rfl
      simp only [Lit.wf, Bool.and_eq_true, decide_eq_true_eq, i1, i2, i3, i4] at w0 w1
      exact ⟨(c, z, s), ⟨w0.1, by show c < 256; omega, w1.1, by show z < 18446744073709551616; omega, by simpa [maxLen] using w2⟩, c0, by rw [Nat.add_assoc]; exact c1, by rw [Nat.add_assoc]; exact c2⟩
    have : Inhabited (Int × Int × ByteArray) := ⟨(0, 0, ⟨#[]⟩)⟩
    obtain ⟨q, hq⟩ := Go.Deep.choose_lt each
    refine ⟨(List.range len).map q, by simp, ?_, fun _ => ⟨b, o, rfl, ?_⟩⟩
    · intro p hp
      obtain ⟨i, hi, rfl⟩ := List.mem_map.1 hp
      exact (hq i (List.mem_range.1 hi)).1
    · intro i p hp
      rw [List.getElem?_map] at hp
      obtain ⟨j, hj, rfl⟩ := Option.map_eq_some_iff.1 hp
      have hil : i < len := by
        have := (List.getElem?_eq_some_iff.1 hj).1
        simpa using this
      rw [List.getElem?_range hil] at hj
      injection hj with hj
      subst hj
      exact (hq _ hil).2
  · exact ⟨[], by simp; omega, fun p h => (by cases h), fun h => absurd h (by decide)⟩
theorem ActsAt.below {W W' : World} {a : Option Addr} {L : List (Int × Int × ByteArray)} (h : ActsAt W a L) (hb : Below W.heap.size W W') : ActsAt W' a L := by
  refine ⟨h.1, fun hl => ?_⟩
  obtain ⟨b, o, e, hc⟩ := h.2 hl
  refine ⟨b, o, e, fun i p hp => ?_⟩
  obtain ⟨h0, h1, h2⟩ := hc i p hp
  have hlt := World.block_lt_of_cell? W _ h0
  have hbk := hb.block b hlt
  exact ⟨(World.cell?_of_block (a := ⟨b, o + i * 3, none⟩) hbk).trans h0, (World.cell?_of_block (a := ⟨b, o + i * 3 + 1, none⟩) hbk).trans h1, (World.cell?_of_block (a := ⟨b, o + i * 3 + 2, none⟩) hbk).trans h2⟩
theorem ActsAt.at {W : World} {a : Option Addr} {L : List (Int × Int × ByteArray)} (h : ActsAt W a L) (i : Nat) (hi : i < L.length) : ∃ b o, a = some ⟨b, o, none⟩ ∧ W.cell? ⟨b, o + i * 3, none⟩ = some (.int .u8 (L.getD i (0, 0, ByteArray.empty)).1) ∧ W.cell? ⟨b, o + i * 3 + 1, none⟩ = some (.int .u64 (L.getD i (0, 0, ByteArray.empty)).2.1) ∧ W.cell? ⟨b, o + i * 3 + 2, none⟩ = some (.string (L.getD i (0, 0, ByteArray.empty)).2.2) := by
  obtain ⟨b, o, e, hc⟩ := h.2 (by omega)
  have hp : L[i]? = some (L.getD i (0, 0, ByteArray.empty)) := by rw [List.getD_eq_getElem?_getD, List.getElem?_eq_getElem hi]; rfl
  exact ⟨b, o, e, hc i _ hp⟩
/-- What 'great' answers. -/
def GreatIs (n : Nat) (L : List (Int × Int × ByteArray)) (w : World) (e : Ending) (w' : World) : Prop := ∃ r : Bool, e = .returned (.bool r) ∧ (r = false → n ≤ 200 ∧ ∀ k, k < n → (L.getD k (0, 0, ByteArray.empty)).2.2.size ≤ 1200) ∧ w = w'
theorem GreatIs.yes (n : Nat) (L : List (Int × Int × ByteArray)) (w : World) : GreatIs n L w (.returned (.bool true)) w := ⟨true, rfl, fun h => (by cases h), rfl⟩
theorem GreatIs.no {n : Nat} {L : List (Int × Int × ByteArray)} {w : World} (h : n ≤ 200) (hs : ∀ k, k < n → (L.getD k (0, 0, ByteArray.empty)).2.2.size ≤ 1200) : GreatIs n L w (.returned (.bool false)) w := ⟨false, rfl, fun _ => ⟨h, hs⟩, rfl⟩
set_option maxRecDepth 100000 in
set_option maxHeartbeats 3200000 in
theorem great_calls (A : Option Addr) (c n : Nat) (L : List (Int × Int × ByteArray)) (hn : L.length = n) (w : World) (hA : ActsAt w A L) :
    Calls Try.prog 9 #[.slice A n c] w fun e w' => GreatIs n L w e w' := by
  have HA := Aside0.mk hA
  have HN := Aside0.mk hn
  clear hA
  go_enter Try.func9, Try.ntmps9
  go_wp2_with fail
  go_loopw [3] (fun i wr => ∃ j : Nat, j ≤ n ∧ i = .int .i64 j ∧ j ≤ 201 ∧ Aside0 (∀ k, k < j → (L.getD k (0, 0, ByteArray.empty)).2.2.size ≤ 1200) ∧ Aside0 (w = wr)) (fun i _ => n - (intOf i).toNat)
  case atStart => exact ⟨0, Nat.zero_le _, rfl, by decide, ⟨fun k hk => absurd hk (Nat.not_lt_zero k)⟩, ⟨rfl⟩⟩
  case round =>
    obtain ⟨j, hj, rfl, hj2, HS, ⟨rfl⟩⟩ := hrel
    by_cases hlt : j < n ∧ j < 201
    · obtain ⟨b, o, rfl, c0, c1, c2⟩ := HA.out.at j (by have := HN.out; omega)
      have h1 : (j : Int) < (n : Int) := by omega
      have h2 : (j : Int) < 201 := by omega
      have ew : IntKind.i64.wrap ((j : Int) + 1) = (j : Int) + 1 := by rw [IntKind.wrap_i64]; omega
      obtain ⟨s, hs⟩ : ∃ s, (L.getD j (0, 0, ByteArray.empty)).2.2 = s := ⟨_, rfl⟩
      have HSJ := Aside0.mk hs
      rw [hs] at c2
      clear c0 c1 hs
      by_cases hlong : s.size ≤ 1200
      · have d1 : ¬ (1200 : Int) < (s.size : Int) := by omega
        go_wp2_with fail
        exact ⟨⟨j + 1, by omega, by simp, by omega, ⟨fun k hk => by
          rcases Nat.lt_or_ge k j with h | h
          · exact HS.out k h
          · obtain rfl : k = j := by omega
            rw [HSJ.out]; exact hlong⟩, ⟨trivial⟩⟩, by simp [intOf]; omega⟩
      · have d1 : (1200 : Int) < (s.size : Int) := by omega
        go_wp2_with fail
        go_ret
        exact GreatIs.yes _ _ _
    · by_cases h1 : j < n
      · have h2 : ¬ (j : Int) < 201 := by omega
        have h3 : (j : Int) < (n : Int) := by omega
        have h4 : (200 : Int) < (n : Int) := by omega
        go_wp2_with fail
        go_ret
        exact GreatIs.yes _ _ _
      · obtain rfl : n = j := by omega
        by_cases h5 : n ≤ 200
        · have h6 : ¬ (200 : Int) < (n : Int) := by omega
          go_wp2_with fail
          go_ret
          exact GreatIs.no h5 HS.out
        · have h6 : (200 : Int) < (n : Int) := by omega
          go_wp2_with fail
          go_ret
          exact GreatIs.yes _ _ _
/-- The requests with their numbers, one more. -/
theorem Qs_more (rs : List ByteArray) (s : ByteArray) : Qs (rs ++ [s]) (rs.length + 1) = Qs rs rs.length ++ [((rs.length : Int) + 1, bytesOf s)] := by
  rw [Qs_succ]
  congr 1
  · unfold Qs
    refine List.map_congr_left fun k hk => ?_
    rw [List.mem_range] at hk
    simp [List.getD_eq_getElem?_getD, List.getElem?_append_left hk]
  · simp [List.getD_eq_getElem?_getD]
/-- The answers that are not told yet. -/
def Rs27 (ans : List ByteArray) (told : Nat) : List Rq := (List.range (ans.length - told)).map fun k => (((told + k : Nat) : Int) + 1, bytesOf (ans.getD (told + k) ByteArray.empty))
theorem Rs27_length (ans : List ByteArray) (told : Nat) : (Rs27 ans told).length = ans.length - told := by simp [Rs27]
theorem Rs27_told (ans : List ByteArray) : Rs27 ans ans.length = [] := by simp [Rs27]
theorem Rs27_more (ans : List ByteArray) (told : Nat) (s : ByteArray) (h : told ≤ ans.length) : Rs27 (ans ++ [s]) told = Rs27 ans told ++ [((ans.length : Int) + 1, bytesOf s)] := by
  unfold Rs27
  rw [List.length_append, List.length_singleton, show ans.length + 1 - told = (ans.length - told) + 1 by omega, List.range_succ, List.map_append, List.map_singleton]
  congr 1
  · refine List.map_congr_left fun k hk => ?_
    rw [List.mem_range] at hk
    simp only [List.getD_eq_getElem?_getD, List.getElem?_append_left (show told + k < ans.length by omega)]
  · rw [show told + (ans.length - told) = ans.length by omega]
    simp [List.getD_eq_getElem?_getD]
theorem Rs27_at (ans : List ByteArray) (told k : Nat) (h : k < ans.length - told) : (Rs27 ans told).getD k (0, []) = (((told + k : Nat) : Int) + 1, bytesOf (ans.getD (told + k) ByteArray.empty)) := by
  simp [Rs27, List.getD_eq_getElem?_getD, h]
end Go.Proofs.Ytpadajkdpldliaa.Ext
