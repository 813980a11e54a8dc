/- EntryReads, its cases joined. -/
import Derived.Test.YtdfmganmchmbjaaEReadW
namespace Go.Proofs.Ytdfmganmchmbjaa.Ext
open Go.RowKit Go.ChangeShapes Go.WideShapes Go.Proofs.YtdfmganmchmbjaaW.PrintWords Go.Proofs.YtdfmganmchmbjaaW.PrintLast Go.Proofs.YtdfmganmchmbjaaW.PrintMore Go.Proofs.Ytdfmganmchmbjaa.PZ
set_option linter.unusedVariables false
theorem reads_all (A : Option Addr) (c : Nat) (l : List Int) (w : World) (hC : Kd.C (Kd.int .u8) w A l.length l) (hby : ∀ x ∈ l, IsByte x) :
    Calls Try.prog 7 #[.slice A l.length c] w fun e w' => e = .returned (.bool true) ∧ Below w.heap.size w w' := by
  by_cases hlen : l.length ≤ 3000
  · rcases gposting_sound l hby with hE | ⟨a0, a1, a2, L, hE, hEl, ha, _, hP⟩ <;> rcases ginvoice_sound l hby with hF | ⟨b0, b1, b2, b4, b5, M, hF, hFl, _, hI⟩ <;> rcases glease_sound l hby with hG | ⟨l0, l1, l2, l3, l4, hG, hGl⟩ <;> rcases gpack_sound l hby with hH | ⟨k0, k1, hH, hHl⟩
    · exact reads_ffff A c l w hC hby hlen hE hF hG hH
    · exact reads_ffft A c l w hC hby hlen k0 k1 hHl hE hF hG hH
    · exact reads_fftf A c l w hC hby hlen l0 l1 l2 l3 l4 hGl hE hF hG hH
    · exfalso; have h1 := elease_len l0 l1 l2 l3 l4; rw [← hGl] at h1; have h2 := epack_len k0 k1; rw [← hHl] at h2; omega
    · exact reads_ftff A c l w hC hby hlen b0 b1 b2 b4 b5 M hI hFl hE hF hG hH
    · exfalso; have h1 := einv_long b0 b1 b2 b4 b5 M; rw [← hFl] at h1; have h2 := epack_len k0 k1; rw [← hHl] at h2; omega
    · exfalso; have h1 := einv_long b0 b1 b2 b4 b5 M; rw [← hFl] at h1; have h2 := elease_len l0 l1 l2 l3 l4; rw [← hGl] at h2; omega
    · exfalso; have h1 := elease_len l0 l1 l2 l3 l4; rw [← hGl] at h1; have h2 := epack_len k0 k1; rw [← hHl] at h2; omega
    · exact reads_tfff A c l w hC hby hlen a0 a1 a2 L ha hP hEl hE hF hG hH
    · exfalso; have h1 := epost_long a2 hP; rw [← hEl] at h1; have h2 := epack_len k0 k1; rw [← hHl] at h2; omega
    · exfalso; have h1 := epost_long a2 hP; rw [← hEl] at h1; have h2 := elease_len l0 l1 l2 l3 l4; rw [← hGl] at h2; omega
    · exfalso; have h1 := elease_len l0 l1 l2 l3 l4; rw [← hGl] at h1; have h2 := epack_len k0 k1; rw [← hHl] at h2; omega
    · exact reads_ttff A c l w hC hby hlen a0 a1 a2 L ha hP hEl b0 b1 b2 b4 b5 M hI hFl hE hF hG hH
    · exfalso; have h1 := epost_long a2 hP; rw [← hEl] at h1; have h2 := epack_len k0 k1; rw [← hHl] at h2; omega
    · exfalso; have h1 := epost_long a2 hP; rw [← hEl] at h1; have h2 := elease_len l0 l1 l2 l3 l4; rw [← hGl] at h2; omega
    · exfalso; have h1 := elease_len l0 l1 l2 l3 l4; rw [← hGl] at h1; have h2 := epack_len k0 k1; rw [← hHl] at h2; omega
  · exact reads_long A c l w hlen
theorem EntryReads.walk {H : Type} {enc : TypeId × Value → H} {d : DataW H} {p : List MemPlace} (a : Option Addr) (len cap : Nat) (W : World) (h : DataW.Trod enc Try.prog W 0 (fun _ => true) true 31 (.slice a len cap) d p) :
    Calls Try.prog 7 #[.slice a len cap] W fun e w' => e = .returned (.bool true) ∧ Below W.heap.size W w' := by
  obtain ⟨l, rfl, hC, hb⟩ := bytes_come h
  exact reads_all a cap l W hC hb
end Go.Proofs.Ytdfmganmchmbjaa.Ext
