/- GateOnce: what comes in, opened; its early ends; all joined. -/
import Derived.Test.YtpadajkdpldliaaOnceW
import Derived.Test.YtpadajkdpldliaaRows
import Derived.Deep.SlicePairs
namespace Go.Proofs.Ytpadajkdpldliaa.Ext
open Go.RowKit Go.ChangeShapes Go.WideShapes Go.Proofs.YtpadajkdpldliaaW.PrintWords Go.Proofs.YtpadajkdpldliaaW.PrintLast Go.Proofs.YtpadajkdpldliaaW.PrintMore Go.Proofs.YtpadajkdpldliaaW.Hand
set_option linter.unusedVariables false
theorem wf_u8b (a : Int) (h : (Lit.int .u8 a).wf = true) : IsByte a := by
  have h1 : IntKind.u8.min = 0 := rfl
  have h2 : IntKind.u8.max = 255 := rfl
  simp only [Lit.wf, Bool.and_eq_true, decide_eq_true_eq, h1, h2] at h
  unfold IsByte
  omega
theorem bytes_open {H : Type} {enc : TypeId × Value → H} {W : World} {a : Option Addr} {len cap : Nat} {d : DataW H} {p : List MemPlace}
    (h : DataW.Trod enc Try.prog W 0 (fun _ => true) true 39 (.slice a len cap) d p) : ∃ l, l.length = len ∧ Kd.C (Kd.int .u8) W a l.length l ∧ ∀ x ∈ l, IsByte x := by
  have w0 : (a = none ∧ len = 0 ∧ cap = 0 ∧ ([] : List Int) = []) ∨ ∃ z0 : List Int, ∃ x, a = some x ∧ len ≤ cap ∧ cap ≤ maxLen ∧ z0.length = cap ∧ (∀ i, i < z0.length → W.cell? (x.add i) = some (.int .u8 (z0.getD i 0))) ∧ ∀ n ∈ z0, (Lit.int .u8 n).wf = true := by
    obtain ⟨fuel, hf⟩ := h
    rcases open_ints Try.underlying39 Try.underlying5 (by kernel_rfl) hf with ⟨hcs, _⟩ | ⟨x, l, c, zs, hcs, _, hl, hm, hz, _, hcell, hwz⟩
    · simp [Value.cells] at hcs
      obtain ⟨rfl, rfl, rfl⟩ := hcs
      exact .inl ⟨rfl, rfl, rfl, rfl⟩
    · simp [Value.cells] at hcs
      obtain ⟨rfl, rfl, rfl⟩ := hcs
      exact .inr ⟨zs, _, rfl, hl, hm, by simpa using hz, hcell, hwz⟩
  have w1 : ∃ z0 : List Int, (a = none ∧ len = 0 ∧ cap = 0 ∧ z0 = []) ∨ ∃ x, a = some x ∧ len ≤ cap ∧ cap ≤ maxLen ∧ z0.length = cap ∧ (∀ i, i < z0.length → W.cell? (x.add i) = some (.int .u8 (z0.getD i 0))) ∧ ∀ n ∈ z0, (Lit.int .u8 n).wf = true := by
    rcases w0 with h | ⟨z0, h⟩
    · exact ⟨[], .inl h⟩
    · exact ⟨z0, .inr h⟩
  obtain ⟨z0, w1⟩ := w1
  obtain ⟨l0, rfl, hr0, hm0, hw0, hc0⟩ := ReadsInt.ofRowC w1
  exact ⟨l0, rfl, Kd.C_of_reads (d := (0 : Int)) (h1 := fun _ => rfl) hr0, fun c hc => wf_u8b c (hw0 c hc)⟩
theorem bulk_part {H : Type} {d : DataW H} {l : List (DataW H)} (h : d ∈ l) : Rows.uptoBulk d ≤ Rows.uptoBulkAll l := by
  induction l with
  | nil => cases h
  | cons x r ih =>
    simp only [Rows.uptoBulkAll]
    cases List.mem_cons.1 h with
    | inl e => subst e; omega
    | inr e => have := ih e; omega
theorem strs_open {H : Type} {enc : TypeId × Value → H} {W : World} {a : Option Addr} {len cap : Nat} {d : DataW H} {p : List MemPlace}
    (h : DataW.Trod enc Try.prog W 0 (fun _ => true) true 31 (.slice a len cap) d p) : ∃ L : List ByteArray, L.length = len ∧ Kd.C Kd.string W a L.length L ∧ ∀ k, k < L.length → (L.getD k ByteArray.empty).size ≤ Rows.uptoBulk d := by
  obtain ⟨fuel, hf⟩ := h
  rcases Go.Deep.open_slice1 Try.underlying31 (by kernel_rfl) hf with ⟨hcs, _⟩ | ⟨ad, len', cap', m, n, V, D, Pl, hcs, _, hl, hm, hmm, hx0, hx⟩
  · simp [Value.cells] at hcs
    obtain ⟨rfl, rfl, rfl⟩ := hcs
    exact ⟨[], rfl, Kd.C_nil _ _, fun k hk => absurd hk (Nat.not_lt_zero k)⟩
  · simp [Value.cells] at hcs
    obtain ⟨rfl, rfl, rfl⟩ := hcs
    have hlm : len ≤ m := by rw [hmm]; split <;> omega
    have each : ∀ i, i < len → ∃ s : ByteArray, W.cell? (ad.add i) = some (.string s) ∧ D i = .lit (.string s.data.toList) := by
      intro i hi
      obtain ⟨e0, t0⟩ := hx i (by omega)
      obtain ⟨c, g0, g1, _⟩ := DataW.trod_string Try.underlying9 t0
      simp only [List.cons.injEq, and_true] at g0
      rw [g0] at e0
      exact ⟨c, e0, congrArg Prod.fst g1⟩
    obtain ⟨q, hq⟩ := Go.Deep.choose_lt each
    refine ⟨(List.range len).map q, by simp, ?_, ?_⟩
    · refine Kd.C_of_reads (enc := Value.string) (d := ByteArray.empty) (h1 := fun _ => rfl) ⟨rfl, ?_, fun _ => ⟨ad, rfl, fun j hj => ?_⟩⟩
      · have h1 : len ≤ maxLen := Nat.le_trans hl hm
        simp only [List.length_map, List.length_range]
        unfold maxLen at h1
        omega
      · simp only [List.length_map, List.length_range] at hj
        rw [(hq j hj).1]
        simp [List.getD_eq_getElem?_getD, hj]
    · intro k hk
      simp only [List.length_map, List.length_range] at hk
      have e : d = .slice ((List.range len).map D) ((List.range (m - len)).map fun j => D (len + j)) := congrArg Prod.fst hx0
      have h1 : Rows.uptoBulk (D k) ≤ Rows.uptoBulkAll ((List.range len).map D) := bulk_part (List.mem_map.2 ⟨k, List.mem_range.2 hk, rfl⟩)
      rw [(hq k hk).2] at h1
      have h2 : (q k).data.toList.length = (q k).size := by rw [Array.length_toList]; rfl
      rw [e]
      simp only [Rows.uptoBulk] at h1 ⊢
      rw [show (List.getD ((List.range len).map q) k ByteArray.empty) = q k by simp [List.getD_eq_getElem?_getD, hk]]
      omega
set_option maxRecDepth 100000 in
theorem once_many (A0 : Option Addr) (c0 n : Nat) (A1 : Option Addr) (c1 m : Nat) (A2 : Option Addr) (c2 p : Nat) (w : World) (h : 30 < n ∨ 200 < m ∨ p ≠ m) :
    Calls Try.prog 5 #[.slice A0 n c0, .slice A1 m c1, .slice A2 p c2] w fun e w' => e = .returned (.bool true) ∧ Below w.heap.size w w' := by
  by_cases h1 : 30 < n
  · have d0 : decide ((n : Int) > 30) = true := decide_eq_true (by omega)
    have d1 : (30 : Int) < (n : Int) := by omega
    clear h h1
    go_enter Try.func5, Try.ntmps5
    go_wp2_with fail
    go_ret
    exact ⟨rfl, Below.refl _ _⟩
  · have d0 : decide ((n : Int) > 30) = false := decide_eq_false (by omega)
    have d1 : ¬ (30 : Int) < (n : Int) := by omega
    by_cases h2 : 200 < m
    · have d2 : decide ((m : Int) > 200) = true := decide_eq_true (by omega)
      have d3 : (200 : Int) < (m : Int) := by omega
      clear h h1 h2
      go_enter Try.func5, Try.ntmps5
      go_wp2_with fail
      go_ret
      exact ⟨rfl, Below.refl _ _⟩
    · have d2 : decide ((m : Int) > 200) = false := decide_eq_false (by omega)
      have d3 : ¬ (200 : Int) < (m : Int) := by omega
      have h3 : p ≠ m := by omega
      have d4 : ((p : Int) == (m : Int)) = false := by simp; omega
      have d5 : ((p : Int) != (m : Int)) = true := by simp; omega
      have d6 : ¬ (p : Int) = (m : Int) := by omega
      clear h h1 h2 h3
      go_enter Try.func5, Try.ntmps5
      go_wp2_with fail
      go_ret
      exact ⟨rfl, Below.refl _ _⟩
/-- GateOnce, of what comes in, where its bulk is bounded. -/
theorem GateOnce.walk {H : Type} {enc : TypeId × Value → H} {d0 d1 d2 : DataW H} {p0 p1 p2 : List MemPlace} (x0 : Option Addr) (len0 cap0 : Nat) (x1 : Option Addr) (len1 cap1 : Nat) (x2 : Option Addr) (len2 cap2 : Nat) (W : World)
    (k0 : DataW.Trod enc Try.prog W 0 (fun _ => true) true 31 (.slice x0 len0 cap0) d0 p0) (k1 : DataW.Trod enc Try.prog W 0 (fun _ => true) true 39 (.slice x1 len1 cap1) d1 p1) (k2 : DataW.Trod enc Try.prog W 0 (fun _ => true) true 31 (.slice x2 len2 cap2) d2 p2)
    (hk : Rows.uptoSmall H [d0, d1, d2] = true) :
    Calls Try.prog 5 #[.slice x0 len0 cap0, .slice x1 len1 cap1, .slice x2 len2 cap2] W fun e w' => e = .returned (.bool true) ∧ Below W.heap.size W w' := by
  have hb : Rows.uptoBulkAll [d0, d1, d2] ≤ 1048576 := of_decide_eq_true hk
  simp only [Rows.uptoBulkAll] at hb
  by_cases h : 30 < len0 ∨ 200 < len1 ∨ len2 ≠ len1
  · exact once_many _ _ _ _ _ _ _ _ _ W h
  · obtain ⟨rs, hr, hR, hrs⟩ := strs_open k0
    obtain ⟨ns, hn, hN, hnb⟩ := bytes_open k1
    obtain ⟨ps, hp, hP, hps⟩ := strs_open k2
    have e : len2 = len1 := by omega
    subst e
    rw [hr] at hR hrs
    rw [hn] at hN
    rw [hp] at hP hps
    refine once_go x0 cap0 len0 rs x1 cap1 len2 ns x2 cap2 ps W hR hN hP (by omega) (by omega) (fun k hk => ?_) (fun k hk => Nat.le_trans (hps k hk) (by omega)) (fun k hk => Nat.le_trans (hrs k hk) (by omega))
    have : rd ns ((k : Nat) : Int) ∈ ns := by
      have hlt : k < ns.length := by omega
      simp only [rd, Int.toNat_natCast, List.getD_eq_getElem?_getD, List.getElem?_eq_getElem hlt]
      exact List.getElem_mem hlt
    exact hnb _ this
end Go.Proofs.Ytpadajkdpldliaa.Ext
