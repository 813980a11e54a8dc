/- Arguments that are structs, or slices of structs, opened field by field. -/
import Derived.Test.YtpadajkdpldliaaH
import Derived.Deep.Slices
import Derived.Deep.Fields
import Derived.ChangeSame
import Derived.WideShapes
namespace Go.Proofs.Ytpadajkdpldliaa.Open
open Go.ChangeShapes Go.WideShapes
set_option linter.unusedVariables false
section
variable {H : Type} {enc : TypeId × Value → H} {P : Program} {w : World} {base : Nat} {spare : Nat → Bool} {held : Bool}
theorem spot_none {w : World} {a : Addr} {v : Value} (h : w.cell? a = some v) : a.spot = none := by
  unfold World.cell? at h
  split at h
  · split at h
    · cases h
    · simpa using ‹¬ a.spot.isSome = true›
  · cases h
/-- What the cells of a struct read as: each field from its own cells on. -/
theorem fields_at {t : TypeId} {fs : Array Field} {fuel : Nat} {cs : List Value} {x : DataW H × List MemPlace} (ht : P.underlying t = some (.struct fs)) (h : DataW.trod enc P w base spare held fuel t cs = some x)
    (j : Nat) (f : Field) (hf : fs[j]? = some f) : ∃ y n, DataW.trod enc P w base spare held n f.type ((cs.drop f.offset).take (P.cellsOf f.type)) = some y := by
  obtain ⟨xs, n, _, _, _, hl, hx⟩ := DataW.trod_struct ht h
  have hj : j < xs.length := by rw [hl]; exact (Array.getElem?_eq_some_iff.1 hf).1
  exact ⟨xs[j], n, (hx j f hf).trans (List.getElem?_eq_getElem hj)⟩
/-- The same, where the field is one cell. -/
theorem field_at {t : TypeId} {fs : Array Field} {fuel : Nat} {cs : List Value} {x : DataW H × List MemPlace} (ht : P.underlying t = some (.struct fs)) (h : DataW.trod enc P w base spare held fuel t cs = some x)
    (j : Nat) (f : Field) (hf : fs[j]? = some f) (h1 : P.cellsOf f.type = 1) (v : Value) (hv : cs[f.offset]? = some v) : ∃ y n, DataW.trod enc P w base spare held n f.type [v] = some y := by
  obtain ⟨y, n, h⟩ := fields_at ht h j f hf
  obtain ⟨hlt, e⟩ := List.getElem?_eq_some_iff.1 hv
  have : (cs.drop f.offset).take (P.cellsOf f.type) = [v] := by
    rw [h1, List.drop_eq_getElem_cons hlt, e]; rfl
  rw [this] at h
  exact ⟨y, n, h⟩
/-- A slice, opened element by element: the cells of each, and that they read as its type. -/
theorem slice_at {t e : TypeId} {a : Option Addr} {len cap : Nat} {d : DataW H} {p : List MemPlace} (ht : P.underlying t = some (.slice e)) (hc : 0 < P.cellsOf e)
    (h : DataW.Trod enc P w 0 (fun _ => true) held t (.slice a len cap) d p) :
    len ≤ cap ∧ cap ≤ maxLen ∧ (0 < len → ∃ b o, a = some ⟨b, o, none⟩ ∧ ∀ i, i < len → ∃ (cs : List Value) (n : Nat) (y : DataW H × List MemPlace), cs.length = P.cellsOf e ∧
      (∀ j, j < P.cellsOf e → w.cell? ⟨b, o + (i * P.cellsOf e + j), none⟩ = cs[j]?) ∧ DataW.trod enc P w 0 (fun _ => true) held n e cs = some y) := by
  obtain ⟨fuel, hf⟩ := h
  rcases Go.Deep.open_slice ht hf with ⟨hcs, _⟩ | ⟨ad, len', cap', m, n, D, Pl, hcs, _, hl, hm, hmm, _, hx⟩
  · simp [Value.cells] at hcs
    obtain ⟨rfl, rfl, rfl⟩ := hcs
    exact ⟨Nat.le_refl _, by simp [maxLen], fun h => absurd h (by decide)⟩
  · simp [Value.cells] at hcs
    obtain ⟨rfl, rfl, rfl⟩ := hcs
    have hlm : len ≤ m := by rw [hmm]; split <;> omega
    refine ⟨hl, hm, fun h0 => ?_⟩
    obtain ⟨cs0, g0, _⟩ := hx 0 (by omega)
    obtain ⟨_, hlen0, hcell0⟩ := World.cells?_some g0
    have hsp := spot_none (((hcell0 0 hc)).trans (List.getElem?_eq_getElem (by omega)))
    obtain ⟨b, o, sp⟩ := ad
    have : sp = none := by
      have e1 : ((⟨b, o, sp⟩ : Addr).add (0 * P.cellsOf e)).add 0 = ⟨b, o, sp⟩ := by simp [Addr.add]
      rw [e1] at hsp
      exact hsp
    subst this
    refine ⟨b, o, rfl, fun i hi => ?_⟩
    obtain ⟨cs', h1, h2⟩ := hx i (by omega)
    obtain ⟨_, hlen, hcell⟩ := World.cells?_some h1
    refine ⟨cs', n, _, hlen, fun j hj => ?_, h2⟩
    have := hcell j hj
    rw [Go.Deep.add_add, Go.WideShapes.add_plain] at this
    exact this
end
end Go.Proofs.Ytpadajkdpldliaa.Open
