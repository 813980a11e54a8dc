/- bytes.Clone and bytes.Equal, proved by walking their code. -/
import Derived.Test.YtddajglkefpjdaaFMath
import Derived.Lib.Strings
import Derived.Laws.Cover3
namespace Go.Proofs.Ytddajglkefpjdaa.Ext
open Go.RowKit Go.Proofs.YtddajglkefpjdaaW.PrintWords Go.Proofs.YtddajglkefpjdaaW.PrintLast Go.Proofs.YtddajglkefpjdaaW.PrintMore Go.Proofs.YtddajglkefpjdaaW.Hand
set_option linter.unusedVariables false
set_option maxRecDepth 100000 in
set_option maxHeartbeats 800000 in
theorem Clone_calls (A : Option Addr) (c n : Nat) (l : List Int) (hn : l.length = n) (w : World) (hr : Kd.C (Kd.int .u8) w A n l) (hm : n ≤ 140737488355000) :
    Calls Try.prog 24 #[.slice A n c] w fun e w' => ∃ A' c', e = .returned (.slice A' n c') ∧ Kd.R (Kd.int .u8) 5 w' w.heap.size (fun _ => True) (.slice A' n c') l ∧ Below w.heap.size w w' := by
  subst hn
  have HR := Aside0.mk hr
  have ke : ∀ (w : World), (binOp .eql 23 (.slice A l.length c) (.slice none 0 0)).run Try.prog w = .ok (.bool A.isNone) w := fun w => by
    simp [binOp, Go.run_equal_slice_nil w 23 5 A l.length c Try.underlying23]
  cases A with
  | none =>
    have hl : l = [] := by
      cases l with
      | nil => rfl
      | cons x l => obtain ⟨ad, e, _⟩ := C_cells hr (by simp); cases e
    subst hl
    clear hr
    rw [show ([] : List Int).length = 0 from rfl, Option.isNone_none] at ke
    go_enter Try.func24, Try.ntmps24
    go_wp2_with fail
    go_ret
    exact ⟨none, 0, rfl, Kd.R_nil _ _ _ _ _, Below.refl _ _⟩
  | some ad =>
    clear hr
    go_enter Try.func24, Try.ntmps24
    go_wp2_with (at_builtin; refine Kd.R_append_row (Value.int .u8) (0 : Int) (w0 := w) w.heap.size rfl (.tmp 5) (.tmp 6) 23 5 (.int .u8 0) 1 rfl Try.underlying23 infoU8 rfl (by decide) (.slice (some ⟨w.heap.size, 0, none⟩) 0 0) [] l (some ad) l.length c (fun k => w.heap.size ≤ k) rfl rfl (fun k hk => by simp at hk; omega) (R_empty w _ _ (Nat.le_refl _) (Nat.le_refl _)) (Kd.C_alloc HR.out _) (below_alloc (Below.refl _ _) _) (by simp) (by simp; omega) ?_; intro v1 w1 ho hb hg hat; simp only [List.nil_append] at ho; obtain ⟨Av, cv, ev⟩ := Kd.R_slice ho; subst ev; have HO := Aside0.mk ho; have HB := Aside0.mk hb; clear ho hb hg hat)
    go_ret
    exact ⟨Av, cv, rfl, Kd.R_mono HO.out (fun _ _ => trivial), HB.out⟩
theorem Equal_calls (A1 A2 : Option Addr) (c1 c2 n1 n2 : Nat) (x y : List Int) (w : World) (h1 : Kd.C (Kd.int .u8) w A1 n1 x) (h2 : Kd.C (Kd.int .u8) w A2 n2 y) (hx : ∀ b ∈ x, IsByte b) (hy : ∀ b ∈ y, IsByte b) (r : Bool) (hr : decide (x = y) = r) :
    Calls Try.prog 25 #[.slice A1 n1 c1, .slice A2 n2 c2] w fun e w' => e = .returned (.bool r) ∧ w = w' := by
  have k1 := Kd.C_string (P := Try.prog) (c := c1) Try.underlying23 Try.underlying5 Try.underlying9 h1
  have k2 := Kd.C_string (P := Try.prog) (c := c2) Try.underlying23 Try.underlying5 Try.underlying9 h2
  have he := strOf_same x y hx hy
  rw [hr] at he
  clear hr h1 h2
  obtain ⟨S1, hS1⟩ : ∃ S, strOfNums x = S := ⟨_, rfl⟩
  obtain ⟨S2, hS2⟩ : ∃ S, strOfNums y = S := ⟨_, rfl⟩
  rw [hS1] at k1 he
  rw [hS2] at k2 he
  clear hS1 hS2
  go_enter Try.func25, Try.ntmps25
  go_wp2
  go_ret
  exact ⟨rfl, rfl⟩
end Go.Proofs.Ytddajglkefpjdaa.Ext
