/- WireKnown, walked. -/
import Derived.Test.YtbiidbiammppiaaNil
import Derived.Test.YtbiidbiammppiaaGoes
namespace Go.Proofs.Ytbiidbiammppiaa.Ext
open Go.RowKit Go.Proofs.YtbiidbiammppiaaW.PrintWords Go.Proofs.YtbiidbiammppiaaW.PrintLast Go.Proofs.YtbiidbiammppiaaW.PrintMore Go.Proofs.YtbiidbiammppiaaW.Hand
set_option linter.unusedVariables false
theorem RdrS.below {W W' : World} {g B : Nat} {r : Rs} (h : RdrS W g B r) (hb : Below W.heap.size W W') : RdrS W' g B r := RdrAt.below h hb
theorem RdrS.at {W : World} {g B : Nat} {r : Rs} (h : RdrS W g B r) : B ≤ g := by obtain ⟨_, _, _, _, _, _, h5⟩ := h; exact h5
theorem bytes_ok (l : List Int) (h : (l.all fun c => decide (0 ≤ c) && decide (c < 256)) = true) : ∀ x ∈ l, IsByte x := fun x hx => by
  have := List.all_eq_true.1 h x hx
  simp only [Bool.and_eq_true, decide_eq_true_eq] at this
  exact this
set_option maxHeartbeats 3200000 in
theorem WireKnown.walk (w : World) : Calls Try.prog 9 #[] w fun e w' => e = .returned (.bool true) ∧ Below w.heap.size w w' := by
  go_enter Try.func9, Try.ntmps9
  go_wp2_with fail
  refine (Bad_nil _).mono ?_
  rintro e w1 ⟨rfl, rfl⟩
  go_wp2_with fail
  refine (rByte_nil _).mono ?_
  rintro e w1 ⟨rfl, rfl⟩
  go_wp2_with fail
  refine (rUint_nil _).mono ?_
  rintro e w1 ⟨rfl, rfl⟩
  go_wp2_with fail
  refine (rInt_nil _).mono ?_
  rintro e w1 ⟨rfl, rfl⟩
  go_wp2_with fail
  refine (rText_nil _).mono ?_
  rintro e w1 ⟨rfl, rfl⟩
  go_wp2_with fail
  refine (rCount_nil 5 (by decide) (by decide) _).mono ?_
  rintro e w1 ⟨rfl, rfl⟩
  go_wp2_with fail
  refine (rDone_nil _).mono ?_
  rintro e w1 ⟨rfl, rfl⟩
  go_wp2_with fail
  refine (Int_any none 0 [] (-2) _ (Kd.C_nil _ _) (by decide)).mono ?_
  rintro e w2 ⟨v0, rfl, hV, hb⟩
  rw [show ([] : List Int) ++ beN 8 (-2 % top64) = [255, 255, 255, 255, 255, 255, 255, 254] by kernel_rfl] at hV
  obtain ⟨A1, c1, ev⟩ := Kd.R_slice hV
  subst ev
  have HO := Aside0.mk (Kd.R_reads' hV)
  have HB := Aside0.mk hb
  clear hV hb
  go_wp2_with fail
  refine (Uint_any A1 c1 [255, 255, 255, 255, 255, 255, 255, 254] 3 _ HO.out.2.2 (by decide) (by decide) (by decide)).mono ?_
  rintro e w3 ⟨v0, rfl, hV, hb⟩
  rw [show ([255, 255, 255, 255, 255, 255, 255, 254] : List Int) ++ beN 8 3 = [255, 255, 255, 255, 255, 255, 255, 254, 0, 0, 0, 0, 0, 0, 0, 3] by kernel_rfl] at hV
  obtain ⟨A2, c2, ev⟩ := Kd.R_slice hV
  subst ev
  have HO2 := Aside0.mk (Kd.R_reads' hV)
  have HB2 := Aside0.mk (below_step HB.out hb)
  clear hV hb HO HB
  go_wp2_with fail
  refine (New_calls A2 c2 [255, 255, 255, 255, 255, 255, 255, 254, 0, 0, 0, 0, 0, 0, 0, 3] _ HO2.out.2.2 (bytes_ok _ (by decide)) (by decide)).mono ?_
  rintro e w4 ⟨g, rfl, hR, hb⟩
  have HG := Aside0.mk (Nat.le_trans HB2.out.size hR.at)
  have HR := Aside0.mk hR
  have HB3 := Aside0.mk (below_step HB2.out hb)
  clear hR hb HO2 HB2
  go_wp2_with fail
  refine (Int_calls g _ ⟨[255, 255, 255, 255, 255, 255, 255, 254, 0, 0, 0, 0, 0, 0, 0, 3], false⟩ _ HR.out (by decide)).mono ?_
  rintro e w5 ⟨rfl, hR, hg⟩
  rw [show (⟨[255, 255, 255, 255, 255, 255, 255, 254, 0, 0, 0, 0, 0, 0, 0, 3], false⟩ : Rs).int = (-2, ⟨[0, 0, 0, 0, 0, 0, 0, 3], false⟩) by kernel_rfl] at hR ⊢
  have HR2 := Aside0.mk hR
  have HB4 := Aside0.mk (HB3.out.grown hg HB3.out.size (fun k hk => by injection hk with hk; have := HG.out; omega))
  clear hR hg HR HB3
  go_wp2_with fail
  refine (Count_calls g _ ⟨[0, 0, 0, 0, 0, 0, 0, 3], false⟩ 3 _ HR2.out (by decide) (by decide) (by decide)).mono ?_
  rintro e w6 ⟨rfl, hR, hg⟩
  rw [show (⟨[0, 0, 0, 0, 0, 0, 0, 3], false⟩ : Rs).count 3 = (3, ⟨[], false⟩) by kernel_rfl] at hR ⊢
  have HR3 := Aside0.mk hR
  have HB5 := Aside0.mk (HB4.out.grown hg HB4.out.size (fun k hk => by injection hk with hk; have := HG.out; omega))
  clear hR hg HR2 HB4
  go_wp2_with fail
  refine (Done_calls g _ ⟨[], false⟩ _ HR3.out (by decide)).mono ?_
  rintro e w7 ⟨rfl, rfl⟩
  rw [show (⟨[], false⟩ : Rs).done = 0 from rfl]
  clear HR3 HG
  go_wp2_with fail
  refine (Uint_any none 0 [] 3 _ (Kd.C_nil _ _) (by decide) (by decide) (by decide)).mono ?_
  rintro e w7 ⟨v0, rfl, hV, hb⟩
  rw [show ([] : List Int) ++ beN 8 3 = [0, 0, 0, 0, 0, 0, 0, 3] by kernel_rfl] at hV
  obtain ⟨A3, c3, ev⟩ := Kd.R_slice hV
  subst ev
  have HO := Aside0.mk (Kd.R_reads' hV)
  have HB6 := Aside0.mk (below_step HB5.out hb)
  clear hV hb HB5
  go_wp2_with fail
  refine (New_calls A3 c3 [0, 0, 0, 0, 0, 0, 0, 3] _ HO.out.2.2 (bytes_ok _ (by decide)) (by decide)).mono ?_
  rintro e w8 ⟨g2, rfl, hR, hb⟩
  have HG := Aside0.mk (Nat.le_trans HB6.out.size hR.at)
  have HR := Aside0.mk hR
  have HB7 := Aside0.mk (below_step HB6.out hb)
  clear hR hb HO HB6
  go_wp2_with fail
  refine (Count_calls g2 _ ⟨[0, 0, 0, 0, 0, 0, 0, 3], false⟩ 2 _ HR.out (by decide) (by decide) (by decide)).mono ?_
  rintro e w9 ⟨rfl, hR, hg⟩
  rw [show (⟨[0, 0, 0, 0, 0, 0, 0, 3], false⟩ : Rs).count 2 = (0, ⟨[], true⟩) by kernel_rfl] at hR ⊢
  have HR2 := Aside0.mk hR
  have HB8 := Aside0.mk (HB7.out.grown hg HB7.out.size (fun k hk => by injection hk with hk; have := HG.out; omega))
  clear hR hg HR HB7
  go_wp2_with fail
  refine (New_calls none 0 [] _ (Kd.C_nil _ _) (bytes_ok _ (by decide)) (by decide)).mono ?_
  rintro e w10 ⟨g3, rfl, hR, hb⟩
  have HR3 := Aside0.mk hR
  have HR4 := Aside0.mk (HR2.out.below hb)
  have HB9 := Aside0.mk (below_step HB8.out hb)
  clear hR hb HR2 HB8
  go_wp2_with fail
  refine (Done_calls g2 _ ⟨[], true⟩ _ HR4.out (by decide)).mono ?_
  rintro e w11 ⟨rfl, rfl⟩
  rw [show (⟨[], true⟩ : Rs).done = 21 from rfl]
  clear HR4
  go_wp2_with fail
  refine (Done_calls g3 _ ⟨[], false⟩ _ HR3.out (by decide)).mono ?_
  rintro e w12 ⟨rfl, rfl⟩
  rw [show (⟨[], false⟩ : Rs).done = 0 from rfl]
  clear HR3
  go_wp2_with fail
  refine (New_calls _ _ [1] _ (C_block (xs := [1]) (heap_new _ _) rfl (by decide)) (bytes_ok _ (by decide)) (by decide)).mono ?_
  rintro e w13 ⟨g4, rfl, hR, hb⟩
  have HR5 := Aside0.mk hR
  have HB10 := Aside0.mk (below_step (below_alloc HB9.out _) hb)
  clear hR hb HB9
  go_wp2_with fail
  refine (Done_calls g4 _ ⟨[1], false⟩ _ HR5.out (by decide)).mono ?_
  rintro e w14 ⟨rfl, rfl⟩
  rw [show (⟨[1], false⟩ : Rs).done = 21 from rfl]
  clear HR5
  go_wp2_with fail
  refine (goes_true _).mono ?_
  rintro e w15 ⟨rfl, hb⟩
  have HB11 := Aside0.mk (below_step HB10.out hb)
  clear hb HB10
  go_wp2
  go_ret
  exact ⟨rfl, HB11.out⟩
end Go.Proofs.Ytbiidbiammppiaa.Ext
