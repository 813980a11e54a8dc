/- GateBack, walked. -/
import Derived.Test.YtpadajkdpldliaaAsks
namespace Go.Proofs.Ytpadajkdpldliaa.Ext
open Go.RowKit Go.Proofs.YtpadajkdpldliaaW.PrintWords Go.Proofs.YtpadajkdpldliaaW.PrintLast Go.Proofs.YtpadajkdpldliaaW.PrintMore Go.Proofs.YtpadajkdpldliaaW.Hand
set_option linter.unusedVariables false
theorem lett_length (n : Int) (s : List Int) : (lett n s).length = 12 + s.length := by simp [lett, beN_length]; omega
theorem lett_byte (n : Int) (s : List Int) (hs : ∀ x ∈ s, IsByte x) : ∀ x ∈ lett n s, IsByte x := by
  intro x hx
  unfold lett at hx
  rcases List.mem_append.1 hx with h | h
  · exact beN_bytes _ _ x h
  · rcases List.mem_append.1 h with h | h
    · exact beN_bytes _ _ x h
    · exact hs x h
theorem gGet_lett (n : Int) (s : List Int) (h0 : 0 ≤ n) (h1 : n < 18446744073709551616) (hs : s.length ≤ 1000000) : gGet (lett n s) = some (n, s) := by
  unfold gGet lett
  rw [uint_app n _ h0 h1]
  have := text_app s [] (by omega)
  rw [List.append_nil] at this
  simp only [this]
  rfl
theorem gGet_short (n : Int) (s : List Int) (h0 : 0 ≤ n) (h1 : n < 18446744073709551616) (hs : s.length ≤ 1000000) : gGet ((lett n s).take (11 + s.length)) = none := by
  have hb : ∀ xs : List Int, (⟨xs, true⟩ : Rs).done ≠ 0 := fun xs => by rw [bad_done]; decide
  have e : (lett n s).take (11 + s.length) = beN 8 n ++ (beN 4 s.length ++ s).take (3 + s.length) := by
    unfold lett
    rw [List.take_append, List.take_of_length_le (by rw [beN_length]; omega), beN_length]
    congr 2
    omega
  rw [e]
  unfold gGet
  rw [uint_app n _ h0 h1]
  have ht : ∃ xs, (⟨(beN 4 s.length ++ s).take (3 + s.length), false⟩ : Rs).text = ([], ⟨xs, true⟩) := by
    cases s with
    | nil => exact ⟨_, short_text _ (by simp [beN_length])⟩
    | cons x s =>
      have e2 : (beN 4 (x :: s).length ++ (x :: s)).take (3 + (x :: s).length) = beN 4 (x :: s).length ++ (x :: s).take s.length := by
        rw [List.take_append, List.take_of_length_le (by rw [beN_length]; simp; omega), beN_length]
        congr 2
        simp; omega
      rw [e2]
      exact ⟨_, short_text2 _ _ (by omega) (by simp)⟩
  obtain ⟨xs, ht⟩ := ht
  simp only [ht]
  rw [if_neg (hb xs)]
theorem lit_u64 (c : Int) (h : (Lit.int .u64 c).wf = true) : 0 ≤ c ∧ c < top64 := by
  have h1 : IntKind.u64.min = 0 := rfl
  have h2 : IntKind.u64.max = 18446744073709551615 := rfl
  have h3 : top64 = 18446744073709551616 := rfl
  simp only [Lit.wf, Bool.and_eq_true, decide_eq_true_eq, h1, h2] at h
  omega
set_option maxRecDepth 100000 in
set_option maxHeartbeats 3200000 in
theorem GateBack.walk (n : Int) (a : ByteArray) (w : World) (w0 : (Lit.int .u64 n).wf = true) :
    Calls Try.prog 6 #[.int .u64 n, .string a] w fun e w' => e = .returned (.bool true) ∧ Below w.heap.size w w' := by
  have kc := fun (w : World) (s : ByteArray) => Lib.run_convert_string_bytes (P := Try.prog) w 9 39 5 s Try.underlying9 Try.underlying39 Try.underlying5
  obtain ⟨h0, ht⟩ := lit_u64 _ w0
  have hn : n < 18446744073709551616 := ht
  clear ht w0
  by_cases h1 : (1200 : Int) < a.size
  · clear h0 hn
    go_enter Try.func6, Try.ntmps6
    go_wp2_with fail
    go_ret
    exact ⟨rfl, Below.refl _ _⟩
  have hal : a.size ≤ 1200 := by omega
  have kp := gPut_calls n (some ⟨w.heap.size, 0, none⟩) (grownCap w a.size 0 5) (bytesOf a) _ (C_str w 5 a (by omega)) (by rw [bytesOf_length]; omega) h0 hn
  rw [bytesOf_length] at kp
  have KP := Aside0.mk kp
  have HG := Aside0.mk (gGet_lett n (bytesOf a) h0 hn (by rw [bytesOf_length]; omega))
  have HS := Aside0.mk (gGet_short n (bytesOf a) h0 hn (by rw [bytesOf_length]; omega))
  obtain ⟨m, hm⟩ : ∃ m, (lett n (bytesOf a)).length = m := ⟨_, rfl⟩
  have hml : m = 12 + a.size := by rw [← hm, lett_length, bytesOf_length]
  have HM := Aside0.mk hm
  have HBy := Aside0.mk (lett_byte n (bytesOf a) (bytesOf_bytes a))
  clear kp h0 hn hm
  go_enter Try.func6, Try.ntmps6
  go_wp2_with fail
  refine KP.out.mono ?_
  rintro e w1 ⟨v1, rfl, hV, hb⟩
  obtain ⟨A1, c1, ev⟩ := Kd.R_slice hV
  subst ev
  have hc0 := (Kd.R_reads' hV).2
  have HC1 := Aside0.mk hc0.2
  have HB1 := Aside0.mk (below_step (str_below w 5 a) hb)
  have kg := gGet_calls A1 c1 _ w1 HC1.out HBy.out (by rw [HM.out]; omega)
  have hcap : m ≤ c1 := by rw [← HM.out]; exact hc0.1
  obtain ⟨s1, t2⟩ := cut_to .i64 (A := A1) (c := c1) (xs := lett n (bytesOf a)) (b := m - 1) (by rw [HM.out]; omega) (by rw [HM.out]; omega) ((m : Int) - 1) (by omega)
  have HC2 := Aside0.mk (t2 w1 HC1.out)
  have ht : (lett n (bytesOf a)).take (m - 1) = (lett n (bytesOf a)).take (11 + (bytesOf a).length) := by rw [bytesOf_length]; congr 1; omega
  have hl2 : ((lett n (bytesOf a)).take (m - 1)).length = m - 1 := by rw [List.length_take, HM.out]; omega
  have kg2 := gGet_calls A1 c1 ((lett n (bytesOf a)).take (m - 1))
  rw [hl2] at kg2 HC2
  rw [show gGet ((lett n (bytesOf a)).take (m - 1)) = none from by rw [ht]; exact HS.out] at kg2
  rw [HG.out, HM.out] at kg
  rw [HM.out] at s1 ⊢
  have KG := Aside0.mk kg
  have KG2 := Aside0.mk kg2
  obtain ⟨m1, hm1⟩ : ∃ k, m - 1 = k := ⟨_, rfl⟩
  have HM1 := Aside0.mk hm1
  rw [hm1] at s1 HC2 KG2
  have hm12 : ¬ (m : Int) < 12 := by omega
  have hm13 : (m : Int) ≤ 2000 := by omega
  have HML := Aside0.mk hml
  have hm14 : IntKind.i64.wrap ((m : Int) - 1) = (m : Int) - 1 := by rw [IntKind.wrap_i64]; omega
  clear hml hcap hal h1
  clear hV hb hc0 t2 kg kg2 ht hl2 hm1
  go_wp2_with fail
  refine KG.out.mono ?_
  rintro e w2 ⟨hb, v2, rfl, hV⟩
  have cv := str_own hV
  rw [str_bytes] at cv
  have HB2 := Aside0.mk (below_step HB1.out hb)
  have HC3 := Aside0.mk (Kd.C_below HC2.out hb)
  clear hV hb
  go_wp2_with fail
  refine (KG2.out _ HC3.out (fun x hx => HBy.out x (List.mem_of_mem_take hx)) (by have h1 := HM1.out; have h2 := HML.out; omega)).mono ?_
  rintro e w3 ⟨hb, he⟩
  simp only [GetIs] at he
  subst he
  have HB3 := Aside0.mk (below_step HB2.out hb)
  clear hb
  go_wp2_with fail
  refine (asks_true _).mono ?_
  rintro e w4 ⟨rfl, hb⟩
  have HB4 := Aside0.mk (below_step HB3.out hb)
  clear hb
  go_wp2_with fail
  go_ret
  exact ⟨rfl, HB4.out⟩
end Go.Proofs.Ytpadajkdpldliaa.Ext
