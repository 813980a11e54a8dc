/- The contracts of crc.nibbles and crc.Check, proved by walking their code. -/
import Derived.Test.YtddajglkefpjdaaProg
import Derived.WalkKit
import Derived.KernelRfl
import Derived.Test.YtddajglkefpjdaaWMore
namespace Go.Proofs.Ytddajglkefpjdaa.Ext
open Go.RowKit Go.Proofs.YtddajglkefpjdaaW.PrintWords Go.Proofs.YtddajglkefpjdaaW.PrintLast Go.Proofs.YtddajglkefpjdaaW.PrintMore
set_option linter.unusedVariables false

/-- One bit that falls out of a register, as the code says it. -/
def bitStep (v : Int) : Int := Go.bits .xor .u32 (v / 2) ((2197175160 * Go.bits .and .u32 v 1) % 4294967296)
def bitSteps : Nat → Int → Int
  | 0, v => v
  | n + 1, v => bitStep (bitSteps n v)
def tabTo : Nat → Array Value
  | 0 => Array.replicate 16 (.int .u32 0)
  | n + 1 => (tabTo n).setIfInBounds n (.int .u32 (bitSteps 4 n))

theorem tabTo_get (k : Nat) (h : k < 16) : (tabTo k)[k]? = some (.int .u32 0) := by
  have h1 : ∀ n, n ≤ k → (tabTo n)[k]? = some (.int .u32 0) := by
    intro n
    induction n with
    | zero => intro _; simp [tabTo, h]
    | succ n ih => intro hn; simp only [tabTo]; rw [Array.getElem?_setIfInBounds_ne (by omega)]; exact ih (by omega)
  exact h1 k (Nat.le_refl _)
theorem tabTo_size (k : Nat) : (tabTo k).size = 16 := by
  induction k with
  | zero => rfl
  | succ n ih => simp [tabTo, ih]

def nibs : List Int := [0, 274646895, 549293790, 820201905, 1098587580, 1361435347, 1640403810, 1905808397, 2197175160, 2460548119, 2722870694, 2987750089, 3280807620, 3553878443, 3811616794, 4084100981]
set_option maxRecDepth 20000 in
set_option maxHeartbeats 1000000 in
theorem tab_16 : tabTo 16 = #[.int .u32 0, .int .u32 274646895, .int .u32 549293790, .int .u32 820201905, .int .u32 1098587580, .int .u32 1361435347, .int .u32 1640403810, .int .u32 1905808397, .int .u32 2197175160, .int .u32 2460548119, .int .u32 2722870694, .int .u32 2987750089, .int .u32 3280807620, .int .u32 3553878443, .int .u32 3811616794, .int .u32 4084100981] := by
  kernel_rfl
set_option maxHeartbeats 1600000 in
theorem nibbles_any (w : World) : Calls Try.prog 35 #[] w fun e w' => e = .returned (.agg (tabTo 16)) ∧ Below w.heap.size w w' := by
  go_enter Try.func35, Try.ntmps35
  go_wp2
  go_loopw [4] (fun i wr => ∃ k : Nat, k ≤ 16 ∧ i = .int .i64 k ∧ wr = w.alloc (.cells (tabTo k) 66)) (fun i _ => 16 - (intOf i).toNat)
  case atStart => exact ⟨0, by omega, rfl, rfl⟩
  case round =>
    obtain ⟨k, hk, rfl, rfl⟩ := hrel
    by_cases hlt : k < 16
    · have hcell := tabTo_get k hlt
      go_wp2
      go_loopw [2, 9] (fun v i wr => ∃ j : Nat, j ≤ 4 ∧ i = .int .i64 j ∧ v = .int .u32 (bitSteps j k) ∧ wr = w.alloc (.cells (tabTo k) 66)) (fun _ i _ => 4 - (intOf i).toNat)
      case atStart => exact ⟨0, by omega, rfl, by simp [bitSteps], rfl⟩
      case round =>
        obtain ⟨j, hj, rfl, rfl, rfl⟩ := hrel
        by_cases hlt2 : j < 4
        · go_wp2
          go_roundw
          case rel => exact ⟨j + 1, by omega, by go_num, by simp [bitSteps, bitStep]⟩
          case measure => simp [intOf]; omega
        · obtain rfl : j = 4 := by omega
          go_wp2
          go_roundw
          case rel => exact ⟨k + 1, by omega, by go_num, by simp [tabTo]⟩
          case measure => simp [intOf]; omega
    · obtain rfl : k = 16 := by omega
      rw [tab_16]
      go_wp2
      refine bodyPost_ret (v := .agg #[.int .u32 0, .int .u32 274646895, .int .u32 549293790, .int .u32 820201905, .int .u32 1098587580, .int .u32 1361435347, .int .u32 1640403810, .int .u32 1905808397, .int .u32 2197175160, .int .u32 2460548119, .int .u32 2722870694, .int .u32 2987750089, .int .u32 3280807620, .int .u32 3553878443, .int .u32 3811616794, .int .u32 4084100981]) (by simp [results, Try.results35, go_sem]) rfl ⟨rfl, ?_⟩
      exact (Below.refl _ _).alloc (Nat.le_refl _) _

end Go.Proofs.Ytddajglkefpjdaa.Ext
