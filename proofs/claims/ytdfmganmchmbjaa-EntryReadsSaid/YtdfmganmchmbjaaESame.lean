/- The reference's SamePosting and SameInvoice: the same as itself. -/
import Derived.Test.YtdfmganmchmbjaaPXx3
import Derived.Test.YtdfmganmchmbjaaPXx4
namespace Go.Proofs.Ytdfmganmchmbjaa.Ext
open Go.RowKit Go.Proofs.YtdfmganmchmbjaaW.PrintWords Go.Proofs.YtdfmganmchmbjaaW.PrintLast Go.Proofs.YtdfmganmchmbjaaW.PrintMore Go.Proofs.Ytdfmganmchmbjaa.PZ Go.Proofs.Ytdfmganmchmbjaa.PX
set_option linter.unusedVariables false
theorem wrap_succ (j : Nat) (h : j < 100000) : wrap64 ((j : Int) + 1) = ((j + 1 : Nat) : Int) := by unfold wrap64; omega
theorem psame_l0 (a b c : Int) (l : List S37) (hl : l.length ≤ 1000) : ∀ (n j : Nat), j ≤ l.length → l.length - j ≤ n → quitrentref14_SamePosting.l0 (n + 1) (j : Int) a b c l a b c l = some true := by
  intro n
  induction n with
  | zero =>
    intro j hj h
    simp only [quitrentref14_SamePosting.l0]
    rw [if_neg (by omega)]
  | succ n ih =>
    intro j hj h
    simp only [quitrentref14_SamePosting.l0]
    by_cases hlt : (j : Int) < (l.length : Int)
    · rw [if_pos hlt, if_pos (by omega), if_pos hlt, if_neg (by simp), wrap_succ j (by omega)]
      exact ih (j + 1) (by omega) (by omega)
    · rw [if_neg hlt]
theorem psame_self (a b c : Int) (l : List S37) (hl : l.length ≤ 50) : quitrentref14_SamePosting.f 60 a b c l a b c l = some true := by
  unfold quitrentref14_SamePosting.f
  simp only [if_true, bne_self_eq_false]
  rw [show (60 : Nat) = (58 + 1) + 1 from rfl]
  simp only [quitrentref14_SamePosting.j0]
  rw [if_neg (by decide)]
  exact psame_l0 a b c l (by omega) 58 0 (by omega) (by omega)
theorem isame_l0 (a b c d e : Int) (l : List S53) (hl : l.length ≤ 1000) : ∀ (n j : Nat), j ≤ l.length → l.length - j ≤ n → quitrentref14_SameInvoice.l0 (n + 1) (j : Int) a b c l d e a b c l d e = some true := by
  intro n
  induction n with
  | zero =>
    intro j hj h
    simp only [quitrentref14_SameInvoice.l0]
    rw [if_neg (by omega)]
  | succ n ih =>
    intro j hj h
    simp only [quitrentref14_SameInvoice.l0]
    by_cases hlt : (j : Int) < (l.length : Int)
    · rw [if_pos hlt, if_pos (by omega), if_pos hlt, if_neg (by simp), wrap_succ j (by omega)]
      exact ih (j + 1) (by omega) (by omega)
    · rw [if_neg hlt]
theorem isame_self (a b c d e : Int) (l : List S53) (hl : l.length ≤ 50) : quitrentref14_SameInvoice.f 60 a b c l d e a b c l d e = some true := by
  unfold quitrentref14_SameInvoice.f
  simp only [if_true, bne_self_eq_false]
  rw [show (60 : Nat) = (58 + 1) + 1 from rfl]
  simp only [quitrentref14_SameInvoice.j0]
  rw [if_neg (by decide)]
  exact isame_l0 a b c d e l (by omega) 58 0 (by omega) (by omega)
theorem psame_calls (a b c : Int) (A A' : Option Addr) (d d' : Nat) (l : List S37) (w : World) (hl : l.length ≤ 50) (h1 : Kd.C k37 w A l.length l) (c1 : l.length ≤ d) (h2 : Kd.C k37 w A' l.length l) (c2 : l.length ≤ d') :
    Calls Try.prog 23 #[.agg #[.int .u64 a, .int .i64 b, .int .u32 c, .slice A l.length d], .agg #[.int .u64 a, .int .i64 b, .int .u32 c, .slice A' l.length d']] w fun e w' => e = .returned (.bool true) ∧ Below w.heap.size w w' :=
  quitrentref14_SamePosting.calls 60 a b c A d l a b c A' d' l true w h1 c1 h2 c2 (psame_self a b c l hl)
theorem isame_calls (a b c x y : Int) (A A' : Option Addr) (d d' : Nat) (l : List S53) (w : World) (hl : l.length ≤ 50) (h1 : Kd.C k53 w A l.length l) (c1 : l.length ≤ d) (h2 : Kd.C k53 w A' l.length l) (c2 : l.length ≤ d') :
    Calls Try.prog 25 #[.agg #[.int .u32 a, .int .u32 b, .int .i64 c, .slice A l.length d, .int .i64 x, .int .i64 y], .agg #[.int .u32 a, .int .u32 b, .int .i64 c, .slice A' l.length d', .int .i64 x, .int .i64 y]] w fun e w' => e = .returned (.bool true) ∧ Below w.heap.size w w' :=
  quitrentref14_SameInvoice.calls 60 a b c A d l x y a b c A' d' l x y true w h1 c1 h2 c2 (isame_self a b c x y l hl)
end Go.Proofs.Ytdfmganmchmbjaa.Ext
