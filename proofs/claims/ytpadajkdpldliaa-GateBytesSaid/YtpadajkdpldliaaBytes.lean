/- GateBytes, walked. -/
import Derived.Test.YtpadajkdpldliaaRef27b
import Derived.Test.YtpadajkdpldliaaBack2
import Derived.Test.YtpadajkdpldliaaOpen
namespace Go.Proofs.Ytpadajkdpldliaa.Ext
open Go.RowKit Go.Proofs.YtpadajkdpldliaaW.PrintWords Go.Proofs.YtpadajkdpldliaaW.PrintLast Go.Proofs.YtpadajkdpldliaaW.PrintMore Go.Proofs.YtpadajkdpldliaaW.Hand
set_option linter.unusedVariables false
theorem gPut_at (n : Int) (a : ByteArray) (A : Option Addr) (c : Nat) (W : World) (hr : Kd.C (Kd.int .u8) W A (bytesOf a).length (bytesOf a)) (ha : a.size ≤ 1200) (h0 : 0 ≤ n) (hn : n < 18446744073709551616) :
    Calls Try.prog 17 #[.int .u64 n, .slice A a.size c] W fun e w' => ∃ v0 : Value, e = .returned v0 ∧ Kd.R (Kd.int .u8) 5 w' W.heap.size (fun _ => True) v0 (lett n (bytesOf a)) ∧ Below W.heap.size W w' := by
  have := gPut_calls n A c (bytesOf a) W hr (by rw [bytesOf_length]; omega) h0 hn
  rwa [bytesOf_length] at this
set_option maxRecDepth 100000 in
set_option maxHeartbeats 3200000 in
theorem GateBytes.walk {H : Type} {enc : TypeId × Value → H} (n : Int) (a : ByteArray) (A : Option Addr) (len cap : Nat) (w : World) (w0 : (Lit.int .u64 n).wf = true) {d : DataW H} {p : List MemPlace}
    (k : DataW.Trod enc Try.prog w 0 (fun _ => true) true 39 (.slice A len cap) d p) :
    Calls Try.prog 4 #[.int .u64 n, .string a, .slice A len cap] w fun e w' => e = .returned (.bool true) ∧ Below w.heap.size w w' := by
  have kc := fun (w : World) (s : ByteArray) => Lib.run_convert_string_bytes (P := Try.prog) w 9 39 5 s Try.underlying9 Try.underlying39 Try.underlying5
  obtain ⟨h0, ht⟩ := lit_u64 _ w0
  have hn : n < 18446744073709551616 := ht
  obtain ⟨l, rfl, hr, hcl, hby⟩ := bytes_come k
  clear ht w0 k
  by_cases h1 : (1200 : Int) < a.size
  · clear h0 hn hr hby
    go_enter Try.func4, Try.ntmps4
    go_wp2_with fail
    go_ret
    exact ⟨rfl, Below.refl _ _⟩
  by_cases h2 : (1200 : Int) < l.length
  · clear h0 hn hr hby
    go_enter Try.func4, Try.ntmps4
    go_wp2_with fail
    go_ret
    exact ⟨rfl, Below.refl _ _⟩
  have hal : a.size ≤ 1200 := by omega
  have hll : l.length ≤ 1200 := by omega
  have hgr := gGet_rget l hby (by omega)
  have kg := Aside0.mk (gGet_calls A cap l w hr hby (by omega))
  have kr := Aside0.mk (fun W (h : Kd.C (Kd.int .u8) W A l.length l) => rGet_calls A cap l W h hcl hby (by omega))
  have HR := Aside0.mk hr
  have H0 := Aside0.mk h0
  have HN := Aside0.mk hn
  obtain ⟨SP, hSP⟩ : ∃ S, strOfNums (lett n (bytesOf a)) = S := ⟨_, rfl⟩
  have HSP := Aside0.mk hSP
  have HAL := Aside0.mk hal
  have hbl : (bytesOf a).length = a.size := bytesOf_length a
  have HBL := Aside0.mk hbl
  have kq := Aside0.mk (fun (W : World) (A2 : Option Addr) (c : Nat) (hr : Kd.C (Kd.int .u8) W A2 (bytesOf a).length (bytesOf a)) => gPut_at n a A2 c W hr hal h0 hn)
  have hcs := Aside0.mk (fun (W : World) => C_str W 5 a (by omega))
  have kp := Aside0.mk (fun (W : World) => rPut_calls n a W h0 (by omega))
  rw [hgr] at kg
  clear hr h0 hn hSP hbl hgr hby hcl hal hll
  go_enter Try.func4, Try.ntmps4
  go_wp2_with fail
  refine kg.out.mono ?_
  rintro e w1 ⟨hb, he⟩
  have HB1 := Aside0.mk hb
  clear hb
  have huni : ∃ (u : Int) (A1 : Option Addr) (n1 c1 : Nat) (S1 : ByteArray) (z : Bool), e = .returned (.tuple #[.int .u64 u, .slice A1 n1 c1, .bool z]) ∧ (∀ W, Below w1.heap.size w1 W → (convert 39 9 (.slice A1 n1 c1)).run Try.prog W = .ok (.string S1) W) ∧ ∀ e', RGetIs e' (rget l) → e' = .returned (.tuple #[.int .u64 u, .string S1, .bool z]) := by
    cases hg : rget l with
    | none =>
      rw [hg] at he
      exact ⟨0, none, 0, 0, ⟨#[]⟩, false, he, fun W _ => str_came (c := 0) (Kd.C_nil _ _) rfl, fun e' h => h⟩
    | some p =>
      rw [hg] at he
      obtain ⟨v1, he, hV⟩ := he
      obtain ⟨A1, c1, ev⟩ := Kd.R_slice hV
      subst ev
      exact ⟨p.1, A1, _, c1, strOfNums p.2, true, he, fun W hW => str_came (Kd.C_below (Kd.R_reads' hV).2.2 hW) rfl, fun e' h => h⟩
  obtain ⟨u, A1, n1, c1, S1, z, rfl, hcv, hrg⟩ := huni
  have HCV := Aside0.mk hcv
  have HRG := Aside0.mk hrg
  clear he hcv hrg kg
  go_wp2_with fail
  refine (kr.out w1 (Kd.C_below HR.out HB1.out)).mono ?_
  rintro e w2 ⟨hb, he⟩
  have he := HRG.out e he
  subst he
  have HB2 := Aside0.mk (below_step HB1.out hb)
  have Sall : Aside0 (∀ W : World, Below w2.heap.size w2 W → (convert 39 9 (.slice A1 n1 c1)).run Try.prog W = .ok (.string S1) W ∧ Below w2.heap.size w2 W) := ⟨fun W hW => ⟨HCV.out W (below_step hb hW), hW⟩⟩
  clear hb
  go_wp2_with fail
  have K0 := Aside0.mk (below_drew (Below.refl w2.heap.size w2))
  refine wp_region_noPanic ?_
  go_region_held (fun W : World => (convert 39 9 (.slice A1 n1 c1)).run Try.prog W = .ok (.string S1) W ∧ Below w2.heap.size w2 W)
    (first
      | exact Sall.out _ K0.out
      | exact Sall.out _ (below_step K0.out (str_below _ _ _)))
    (first
      | (go_at_call 17; (with_reducible refine (kq.out _ _ _ ?_).mono ?_); (first | exact hcs.out _ | exact HCa.out); rintro e w3 ⟨v3, rfl, hV, hb⟩; (have cv3 := str_own hV); rw [HSP.out] at cv3; (have HV3 := Aside0.mk hV); (try (have cv4b := str_own (Kd.R_below HV4.out hb); rw [HSP.out] at cv4b)); (try (have cv4b := str_own (Kd.R_below HV4.out (below_step (str_below _ _ _) hb)); rw [HSP.out] at cv4b)); (have K1 := Aside0.mk (show Below w2.heap.size w2 w3 from by first | exact below_step K0.out hb | exact below_step (below_step K0.out (str_below _ _ _)) hb)); clear K0; (have K0 := K1); clear K1 hV hb)
      | (go_at_call 19; (with_reducible refine (kp.out _).mono ?_); rintro e w4 ⟨v4, rfl, hV, hb⟩; (have cv4 := str_own hV); rw [HSP.out] at cv4; (have HV4 := Aside0.mk hV); (try (have cv3b := str_own (Kd.R_below HV3.out hb); rw [HSP.out] at cv3b)); (try (have HCa := Aside0.mk (Kd.C_below (hcs.out _) hb))); (have K1 := Aside0.mk (show Below w2.heap.size w2 w4 from by first | exact below_step K0.out hb | exact below_step (below_step K0.out (str_below _ _ _)) hb)); clear K0; (have K0 := K1); clear K1 hV hb)
      | (go_at_call 11; refine (asks_true _).mono ?_; rintro e w5 ⟨rfl, hb⟩; (have K1 := Aside0.mk (below_step K0.out hb)); clear K0; (have K0 := K1); clear K1 hb))
  all_goals
    refine NoPanic.normal ?_
    go_wp2_with fail
    go_ret
    exact ⟨rfl, below_step HB2.out K0.out⟩
end Go.Proofs.Ytpadajkdpldliaa.Ext
