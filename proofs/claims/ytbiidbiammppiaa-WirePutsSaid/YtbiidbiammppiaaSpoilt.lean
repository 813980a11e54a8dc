/- WireSpoilt, walked; a row of takes, opened. -/
import Derived.Test.YtbiidbiammppiaaNil
import Derived.Test.YtbiidbiammppiaaWMath
import Derived.Test.YtbiidbiammppiaaGoes
import Derived.Test.YtbiidbiammppiaaLaws1
import Derived.Deep.SlicePairs
namespace Go.Proofs.Ytbiidbiammppiaa.Ext
open Go.RowKit Go.ChangeShapes Go.WideShapes Go.Proofs.YtbiidbiammppiaaW.PrintWords Go.Proofs.YtbiidbiammppiaaW.PrintLast Go.Proofs.YtbiidbiammppiaaW.PrintMore Go.Proofs.YtbiidbiammppiaaW.Hand
set_option linter.unusedVariables false
/-- A row of takes: of each what it is, and its number. -/
def TakesAt (w : World) (a : Option Addr) (L : List (Int × Int)) : Prop :=
  (∀ p ∈ L, 0 ≤ p.1 ∧ p.1 < 256 ∧ -9223372036854775808 ≤ p.2 ∧ p.2 ≤ 9223372036854775807) ∧
  (0 < L.length → ∃ b o, a = some ⟨b, o, none⟩ ∧ ∀ i (p : Int × Int), L[i]? = some p → w.cell? ⟨b, o + i * 2, none⟩ = some (.int .u8 p.1) ∧ w.cell? ⟨b, o + i * 2 + 1, none⟩ = some (.int .i64 p.2))
theorem cell_spot {w : World} {a : Addr} {v : Value} (h : w.cell? a = some v) : a.spot = none := by
  unfold World.cell? at h
  split at h
  · split at h
    · cases h
    · simpa using ‹¬ a.spot.isSome = true›
  · cases h
theorem takes_open {H : Type} {enc : TypeId × Value → H} {W : World} {a : Option Addr} {len cap : Nat} {d : DataW H} {p : List MemPlace}
    (h : DataW.Trod enc Try.prog W 0 (fun _ => true) true 44 (.slice a len cap) d p) : ∃ L, L.length = len ∧ len ≤ cap ∧ TakesAt W a L := by
  obtain ⟨fuel, hf⟩ := h
  rcases Go.Deep.open_slice_pairs Try.underlying44 Try.underlying50 (by kernel_rfl) rfl rfl (by kernel_rfl) (by kernel_rfl) hf with ⟨hcs, _⟩ | ⟨ad, len', cap', m, n, V0, V1, D0, D1, P0, P1, hcs, _, hl, hm, hmm, _, hx⟩
  · simp [Value.cells] at hcs
    obtain ⟨rfl, rfl, rfl⟩ := hcs
    exact ⟨[], rfl, Nat.le_refl _, fun p h => (by cases h), fun h => absurd h (by decide)⟩
  · simp [Value.cells] at hcs
    obtain ⟨rfl, rfl, rfl⟩ := hcs
    have hlm : len ≤ m := by rw [hmm]; split <;> omega
    have each : ∀ i, i < len → ∃ p : Int × Int, (0 ≤ p.1 ∧ p.1 < 256 ∧ -9223372036854775808 ≤ p.2 ∧ p.2 ≤ 9223372036854775807) ∧ W.cell? (ad.add (i * 2)) = some (.int .u8 p.1) ∧ W.cell? (ad.add (i * 2 + 1)) = some (.int .i64 p.2) := by
      intro i hi
      obtain ⟨e0, e1, t0, t1⟩ := hx i (by omega)
      obtain ⟨c, h0, _, w0⟩ := DataW.trod_int Try.underlying5 t0
      obtain ⟨z, h1, _, w1⟩ := DataW.trod_int Try.underlying3 t1
      simp only [List.cons.injEq, and_true] at h0 h1
      rw [h0] at e0
      rw [h1] at e1
      have i1 : IntKind.u8.min = 0 := rfl
      have i2 : IntKind.u8.max = 255 := rfl
      have i3 : IntKind.i64.min = -9223372036854775808 := rfl
      have i4 : IntKind.i64.max = 9223372036854775807 := rfl
      simp only [Lit.wf, Bool.and_eq_true, decide_eq_true_eq, i1, i2, i3, i4] at w0 w1
      exact ⟨(c, z), ⟨by omega, by omega, by omega, by omega⟩, e0, e1⟩
    obtain ⟨q, hq⟩ := Go.Deep.choose_lt each
    refine ⟨(List.range len).map q, by simp, hl, ?_, fun h0 => ?_⟩
    · intro p hp
      obtain ⟨i, hi, rfl⟩ := List.mem_map.1 hp
      exact (hq i (List.mem_range.1 hi)).1
    · have h0 : 0 < len := by simpa using h0
      obtain ⟨b, o, sp⟩ := ad
      have hsp := cell_spot (hq 0 h0).2.1
      rw [Nat.zero_mul, addr_zero] at hsp
      simp only at hsp
      subst hsp
      refine ⟨b, o, rfl, ?_⟩
      intro i p hp
      rw [List.getElem?_map] at hp
      obtain ⟨j, hj, rfl⟩ := Option.map_eq_some_iff.1 hp
      have hil : i < len := by
        have := (List.getElem?_eq_some_iff.1 hj).1
        simpa using this
      rw [List.getElem?_range hil] at hj
      injection hj with hj
      subst hj
      have e1 := (hq _ hil).2.1
      have e2 := (hq _ hil).2.2
      rw [Go.WideShapes.add_plain] at e1 e2
      exact ⟨e1, e2⟩
theorem bytes_open {H : Type} {enc : TypeId × Value → H} {W : World} {a : Option Addr} {len cap : Nat} {d : DataW H} {p : List MemPlace}
    (h : DataW.Trod enc Try.prog W 0 (fun _ => true) true 22 (.slice a len cap) d p) : ∃ l, l.length = len ∧ Kd.C (Kd.int .u8) W a l.length l ∧ ∀ x ∈ l, IsByte x := by
  have w0 : (a = none ∧ len = 0 ∧ cap = 0 ∧ ([] : List Int) = []) ∨ ∃ z0 : List Int, ∃ x, a = some x ∧ len ≤ cap ∧ cap ≤ maxLen ∧ z0.length = cap ∧ (∀ i, i < z0.length → W.cell? (x.add i) = some (.int .u8 (z0.getD i 0))) ∧ ∀ n ∈ z0, (Lit.int .u8 n).wf = true := by
    obtain ⟨fuel, hf⟩ := h
    rcases open_ints Try.underlying22 Try.underlying5 (by kernel_rfl) hf with ⟨hcs, _⟩ | ⟨x, l, c, zs, hcs, _, hl, hm, hz, _, hcell, hwz⟩
    · simp [Value.cells] at hcs
      obtain ⟨rfl, rfl, rfl⟩ := hcs
      exact .inl ⟨rfl, rfl, rfl, rfl⟩
    · simp [Value.cells] at hcs
      obtain ⟨rfl, rfl, rfl⟩ := hcs
      exact .inr ⟨zs, _, rfl, hl, hm, by simpa using hz, hcell, hwz⟩
  have w1 : ∃ z0 : List Int, (a = none ∧ len = 0 ∧ cap = 0 ∧ z0 = []) ∨ ∃ x, a = some x ∧ len ≤ cap ∧ cap ≤ maxLen ∧ z0.length = cap ∧ (∀ i, i < z0.length → W.cell? (x.add i) = some (.int .u8 (z0.getD i 0))) ∧ ∀ n ∈ z0, (Lit.int .u8 n).wf = true := by
    rcases w0 with h | ⟨z0, h⟩
    · exact ⟨[], .inl h⟩
    · exact ⟨z0, .inr h⟩
  obtain ⟨z0, w1⟩ := w1
  obtain ⟨l0, rfl, hr0, hm0, hw0, hc0⟩ := ReadsInt.ofRowC w1
  exact ⟨l0, rfl, Kd.C_of_reads (d := (0 : Int)) (h1 := fun _ => rfl) hr0, fun c hc => wf_byte c (hw0 c hc)⟩
set_option maxRecDepth 100000 in
set_option maxHeartbeats 3200000 in
theorem WireSpoilt.go (A : Option Addr) (c : Nat) (l : List Int) (a : Option Addr) (cp : Nat) (L : List (Int × Int)) (w : World) (hr : Kd.C (Kd.int .u8) w A l.length l) (hb : ∀ x ∈ l, IsByte x) (hL : TakesAt w a L) :
    Calls Try.prog 8 #[.slice A l.length c, .slice a L.length cp] w fun e w' => e = .returned (.bool true) ∧ Below w.heap.size w w' := by
  have HR := Aside0.mk hr
  have HBy := Aside0.mk hb
  have HL := Aside0.mk hL
  clear hr hb hL
  by_cases h1 : (1000 : Int) < l.length
  · go_enter Try.func8, Try.ntmps8
    go_wp2_with fail
    go_ret
    exact ⟨rfl, Below.refl _ _⟩
  by_cases h2 : (100 : Int) < L.length
  · go_enter Try.func8, Try.ntmps8
    go_wp2_with fail
    go_ret
    exact ⟨rfl, Below.refl _ _⟩
  go_enter Try.func8, Try.ntmps8
  go_wp2_with fail
  refine (New_calls A c l _ HR.out HBy.out (by omega)).mono ?_
  rintro e w1 ⟨g, rfl, hR, hb⟩
  have HR1 := Aside0.mk hR
  have HB1 := Aside0.mk hb
  have hgl : g < w1.heap.size := by obtain ⟨_, _, h1, _⟩ := hR; exact h1.lt
  have hg0 : w.heap.size ≤ g := by obtain ⟨_, _, _, _, _, _, h5⟩ := hR; exact h5.1
  clear hR hb
  go_wp2_with fail
  refine (Bad_any g _ l false _ HR1.out).mono ?_
  rintro e w2 ⟨rfl, hR, hG⟩
  have HR2 := Aside0.mk hR
  have HB2 := Aside0.mk (HB1.out.grown hG HB1.out.size (fun k hk => by injection hk with hk; omega))
  clear hR hG HR1 HB1 hgl
  go_wp2_with fail
  go_loopw [6] (fun i wr => ∃ k : Nat, k ≤ L.length ∧ i = .int .i64 k ∧ Aside0 (RdrS wr g (fun k => w.heap.size ≤ k ∧ k < w1.heap.size) ⟨l, true⟩) ∧ Aside0 (Below w.heap.size w wr)) (fun i _ => L.length - (intOf i).toNat)
  case atStart => exact ⟨0, by omega, rfl, HR2, HB2⟩
  case round =>
    obtain ⟨k, hk, rfl, HS, HBW⟩ := hrel
    by_cases hlt : k < L.length
    · obtain ⟨b, o, e1, hc⟩ := HL.out.2 (by omega)
      cases e1
      obtain ⟨p, hp⟩ : ∃ p, L[k]? = some p := ⟨_, List.getElem?_eq_getElem hlt⟩
      obtain ⟨ha, hn⟩ := hc k p hp
      obtain ⟨_, _, hm1, hm2⟩ := HL.out.1 p (List.mem_of_getElem? hp)
      have HN := Aside0.mk hn
      clear ha hn hc hp
      go_wp2_with fail
      refine (Byte_calls g _ ⟨l, true⟩ _ HS.out (by show l.length ≤ _; omega)).mono ?_
      rintro e w3 ⟨rfl, hR, hG⟩
      rw [bad_byte] at hR ⊢
      have HS3 := Aside0.mk hR
      have HB3 := Aside0.mk (HBW.out.grown hG HBW.out.size (fun k hk => by injection hk with hk; omega))
      clear hR hG HS HBW
      go_wp2_with fail
      refine (Uint_calls g _ ⟨l, true⟩ _ HS3.out (by show l.length ≤ _; omega)).mono ?_
      rintro e w4 ⟨rfl, hR, hG⟩
      rw [bad_uint] at hR ⊢
      have HS4 := Aside0.mk hR
      have HB4 := Aside0.mk (HB3.out.grown hG HB3.out.size (fun k hk => by injection hk with hk; omega))
      clear hR hG HS3 HB3
      go_wp2_with fail
      refine (Int_calls g _ ⟨l, true⟩ _ HS4.out (by show l.length ≤ _; omega)).mono ?_
      rintro e w5 ⟨rfl, hR, hG⟩
      rw [bad_int] at hR ⊢
      have HS5 := Aside0.mk hR
      have HB5 := Aside0.mk (HB4.out.grown hG HB4.out.size (fun k hk => by injection hk with hk; omega))
      clear hR hG HS4 HB4
      go_wp2_with fail
      refine (Text_calls g _ ⟨l, true⟩ _ HS5.out (by show l.length ≤ _; omega)).mono ?_
      rintro e w6 ⟨v6, rfl, hV, hR, hG⟩
      rw [bad_text] at hR hV
      obtain ⟨A6, c6, ev⟩ := Kd.R_slice hV
      subst ev
      have HS6 := Aside0.mk hR
      have HB6 := Aside0.mk (HB5.out.grown hG HB5.out.size (fun k hk => by injection hk with hk; omega))
      have hnn := (HB6.out.cell (World.block_lt_of_cell? w _ HN.out)).trans HN.out
      clear hV hR hG HS5 HB5
      go_wp2_with fail
      refine (Count_calls g _ ⟨l, true⟩ p.2 _ HS6.out (by show l.length ≤ _; omega) hm2 hm1).mono ?_
      rintro e w7 ⟨rfl, hR, hG⟩
      rw [bad_count] at hR ⊢
      have HS7 := Aside0.mk hR
      have HB7 := Aside0.mk (HB6.out.grown hG HB6.out.size (fun k hk => by injection hk with hk; omega))
      clear hR hG HS6 HB6 hnn
      go_wp2_with fail
      refine (Done_calls g _ ⟨l, true⟩ _ HS7.out (by show l.length ≤ _; omega)).mono ?_
      rintro e w8 ⟨rfl, rfl⟩
      rw [bad_done]
      go_wp2_with fail
      go_roundw
      case rel => exact ⟨k + 1, by omega, by go_num, HS7, HB7⟩
      case measure => simp [intOf]; omega
    · obtain rfl : k = L.length := by omega
      go_wp2_with fail
      refine (Done_calls g _ ⟨l, true⟩ _ HS.out (by show l.length ≤ _; omega)).mono ?_
      rintro e w8 ⟨rfl, rfl⟩
      rw [bad_done]
      go_wp2_with fail
      refine (goes_true _).mono ?_
      rintro e w9 ⟨rfl, hb⟩
      have HB9 := Aside0.mk (below_step HBW.out hb)
      clear hb
      go_wp2_with fail
      go_ret
      exact ⟨rfl, HB9.out⟩
theorem WireSpoilt.walk {H : Type} {enc : TypeId × Value → H} (a0 : Option Addr) (len0 cap0 : Nat) (a1 : Option Addr) (len1 cap1 : Nat) (w : World) {d0 d1 : DataW H} {p0 p1 : List MemPlace}
    (k0 : DataW.Trod enc Try.prog w 0 (fun _ => true) true 22 (.slice a0 len0 cap0) d0 p0) (k1 : DataW.Trod enc Try.prog w 0 (fun _ => true) true 44 (.slice a1 len1 cap1) d1 p1) :
    Calls Try.prog 8 #[.slice a0 len0 cap0, .slice a1 len1 cap1] w fun e w' => e = .returned (.bool true) ∧ Below w.heap.size w w' := by
  obtain ⟨l, rfl, hr, hb⟩ := bytes_open k0
  obtain ⟨L, rfl, _, hL⟩ := takes_open k1
  exact WireSpoilt.go a0 cap0 l a1 cap1 L w hr hb hL
end Go.Proofs.Ytbiidbiammppiaa.Ext
