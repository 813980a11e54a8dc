/- quitrentref27.Put and Get, proved by walking their code. -/
import Derived.Test.YtpadajkdpldliaaGetMath
import Derived.Test.YtpadajkdpldliaaValue
import Derived.Test.YtpadajkdpldliaaGoes
import Derived.Test.YtpadajkdpldliaaGate3
import Derived.Deep.RegionHeld3
namespace Go.Proofs.Ytpadajkdpldliaa.Ext
open Go.RowKit Go.Proofs.YtpadajkdpldliaaW.PrintWords Go.Proofs.YtpadajkdpldliaaW.PrintLast Go.Proofs.YtpadajkdpldliaaW.PrintMore Go.Proofs.YtpadajkdpldliaaW.Hand
set_option linter.unusedVariables false
set_option maxRecDepth 100000 in
set_option maxHeartbeats 1600000 in
theorem rPut_calls (n : Int) (a : ByteArray) (w : World) (h0 : 0 ≤ n) (hs : a.size ≤ 140737488350000) :
    Calls Try.prog 19 #[.int .u64 n, .string a] w fun e w' => ∃ v0 : Value, e = .returned v0 ∧ Kd.R (Kd.int .u8) 5 w' w.heap.size (fun _ => True) v0 (lett n (bytesOf a)) ∧ Below w.heap.size w w' := by
  have kc := fun (w : World) (s : ByteArray) => Lib.run_convert_string_bytes (P := Try.prog) w 9 39 5 s Try.underlying9 Try.underlying39 Try.underlying5
  have kn := Aside0.mk (Number_calls n 8 8 rfl w (by decide) h0)
  clear h0
  go_enter Try.func19, Try.ntmps19
  go_wp2_with fail
  refine kn.out.mono ?_
  rintro e w1 ⟨v1, rfl, hV, hb⟩
  have HV1 := Aside0.mk hV
  have HB1 := Aside0.mk hb
  have kt := RText_calls (some ⟨w1.heap.size, 0, none⟩) (grownCap w1 a.size 0 5) (bytesOf a) _ (C_str w1 5 a (by omega)) (by rw [bytesOf_length]; omega)
  rw [bytesOf_length] at kt
  have KT := Aside0.mk kt
  clear hV hb kt
  go_wp2_with fail
  refine KT.out.mono ?_
  rintro e w2 ⟨v2, rfl, hV, hb⟩
  have hl2 : (beN 4 (a.size : Int) ++ bytesOf a).length = 4 + a.size := by rw [List.length_append, beN_length, bytesOf_length]
  obtain ⟨T2, hT2⟩ : ∃ T, beN 4 (a.size : Int) ++ bytesOf a = T := ⟨_, rfl⟩
  rw [hT2] at hV hl2
  have HT2 := Aside0.mk hT2
  clear hT2
  obtain ⟨A2, c2, ev⟩ := Kd.R_slice hV
  subst ev
  have HC2 := Aside0.mk (Kd.R_reads' hV).2.2
  have hbb := below_step (str_below w1 5 a) hb
  have HB2 := Aside0.mk (below_step HB1.out hbb)
  have HV2 := Aside0.mk (Kd.R_below HV1.out hbb)
  have HL2 := Aside0.mk hl2
  have hal : a.size ≤ 140737488350000 := hs
  have HAL := Aside0.mk hal
  clear hV hb hbb hl2 hal hs
  go_wp2_with (at_builtin; refine Kd.R_append_row (Value.int .u8) (0 : Int) (w0 := w) w.heap.size rfl (.tmp 6) (.tmp 9) 39 5 (.int .u8 0) 1 rfl Try.underlying39 infoU8 rfl (by decide) v1 (beN 8 n) T2 A2 T2.length c2 (fun _ => True) rfl rfl (fun _ _ => trivial) HV2.out HC2.out HB2.out HB2.out.size (by rw [HL2.out, beN_length]; have := HAL.out; omega) ?_; intro v3 w3 ho1 hb1 hg1 hat1; have HV3 := Aside0.mk ho1; have HB3 := Aside0.mk hb1; clear ho1 hb1 hg1 hat1)
  go_ret
  refine ⟨v3, rfl, ?_, HB3.out⟩
  unfold lett
  rw [bytesOf_length, HT2.out]
  exact HV3.out
end Go.Proofs.Ytpadajkdpldliaa.Ext
