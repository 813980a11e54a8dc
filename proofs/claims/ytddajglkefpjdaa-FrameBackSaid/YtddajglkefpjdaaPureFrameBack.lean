import Derived.Test.YtddajglkefpjdaaPZx1
import Derived.Test.YtddajglkefpjdaaFExt
namespace Go.Proofs.Ytddajglkefpjdaa.Pure
open Go.RowKit Go.Proofs.Ytddajglkefpjdaa.PZ Go.Proofs.YtddajglkefpjdaaW.PrintWords Go.Proofs.YtddajglkefpjdaaW.PrintLast Go.Proofs.Ytddajglkefpjdaa.Ext
theorem wf_u8 {a : Int} (h : (Lit.int .u8 a).wf = true) : 0 ≤ a ∧ a < 256 := by
  have h1 : IntKind.u8.min = 0 := rfl
  have h2 : IntKind.u8.max = 255 := rfl
  simp only [Lit.wf, Bool.and_eq_true, decide_eq_true_eq, h1, h2] at h
  omega
theorem wf_u64 {a : Int} (h : (Lit.int .u64 a).wf = true) : 0 ≤ a ∧ a < top64 := by
  have h1 : IntKind.u64.min = 0 := rfl
  have h2 : IntKind.u64.max = 18446744073709551615 := rfl
  simp only [Lit.wf, Bool.and_eq_true, decide_eq_true_eq, h1, h2] at h
  unfold top64; omega
theorem FrameBack : quitrentlaw04_FrameBack.Pure := by
  intro at_ kind stamp b at2 kind2 w0 w1 w2 hm hl hb w4 w5
  have hk := wf_u8 w1
  have hk2 := wf_u8 w5
  have hs := wf_u64 w2
  have hby : ∀ x ∈ b, IsByte x := fun x hx => wf_u8 (hb x hx)
  unfold quitrentlaw04_FrameBack.f frame_Put.f
  rw [if_pos ⟨hs, hk⟩, Option.bind_some]
  unfold fputv
  by_cases h1 : at_ < 0 ∨ 4096 ≤ at_ ∨ stamp = 0
  · rw [if_pos h1]; rfl
  · rw [if_neg h1]
    by_cases h2 : 4011 < b.length
    · rw [if_pos h2]; rfl
    · rw [if_neg h2]
      dsimp only
      rw [if_pos rfl]
      have hg1 := fgetv_frame at_ at_ kind kind stamp b (by omega) (by omega) hk hk (by omega)
      have hg2 := fgetv_frame at_ at2 kind kind2 stamp b (by omega) (by omega) hk hk2 (by omega)
      rw [if_pos ⟨rfl, rfl⟩] at hg1
      have hok := bytesOk_of (fframe_bytes at_ kind stamp b hby)
      have f1 : frame_Get.f (fframe at_ kind stamp b) at_ kind = some (b, stamp, true) := by unfold frame_Get.f; rw [if_pos ⟨hok, hk⟩, hg1]
      have f2 : frame_Get.f (fframe at_ kind stamp b) at2 kind2 = some (if at2 = at_ ∧ kind2 = kind then (b, stamp, true) else ([], 0, false)) := by unfold frame_Get.f; rw [if_pos ⟨hok, hk2⟩, hg2]
      rw [f1, Option.bind_some, f2, Option.bind_some]
      dsimp only
      rw [if_pos rfl, if_pos rfl, if_pos rfl]
      by_cases ha : at2 = at_ <;> by_cases hkk : kind2 = kind <;> simp [ha, hkk, quitrentlaw04_goes.f]
end Go.Proofs.Ytddajglkefpjdaa.Pure
