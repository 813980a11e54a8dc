/- quitrentlaw01.goes, walked. -/
import Derived.Test.YtbiidbiammppiaaRead
namespace Go.Proofs.Ytbiidbiammppiaa.Ext
open Go.RowKit Go.Proofs.YtbiidbiammppiaaW.PrintWords Go.Proofs.YtbiidbiammppiaaW.PrintLast Go.Proofs.YtbiidbiammppiaaW.PrintMore Go.Proofs.YtbiidbiammppiaaW.Hand
set_option linter.unusedVariables false
/-- A string of a row of bytes of the call's own. -/
theorem str_own {W : World} {base : Nat} {ok : Nat → Prop} {v : Value} {xs : List Int} (h : Kd.R (Kd.int .u8) 5 W base ok v xs) : (convert 22 9 v).run Try.prog W = .ok (.string (strOfNums xs)) W :=
  own_string (P := Try.prog) Try.underlying22 Try.underlying5 Try.underlying9 (Kd.own_of_R h)
set_option maxHeartbeats 1600000 in
theorem goes_true (w : World) : Calls Try.prog 12 #[] w fun e w' => e = .returned (.bool true) ∧ Below w.heap.size w w' := by
  have kc := fun (w : World) (C : Array Value) (n c : Nat) => Lib.run_convert_bytes_const (P := Try.prog) w 22 5 C n c Try.underlying22 Try.underlying5
  go_enter Try.func12, Try.ntmps12
  go_wp2_with fail
  have C0 : Kd.C (Kd.int .u8) (w.alloc (Obj.cells #[Value.int .u8 0, .int .u8 0, .int .u8 0, .int .u8 3, .int .u8 97, .int .u8 98] 5)) (some ⟨w.heap.size, 0, none⟩) [0, 0, 0, 3, 97, 98].length [0, 0, 0, 3, 97, 98] := C_block (xs := [0, 0, 0, 3, 97, 98]) (heap_new _ _) rfl (by decide)
  refine (New_calls _ _ [0, 0, 0, 3, 97, 98] _ C0 (by intro x hx; simp at hx; unfold IsByte; omega) (by decide)).mono ?_
  rintro e w1 ⟨g, rfl, hR, hb⟩
  have HR := Aside0.mk hR
  have hgl : g < w1.heap.size := by obtain ⟨_, _, h1, _⟩ := hR; exact h1.lt
  have hg0 : w.heap.size + 1 ≤ g := by obtain ⟨_, _, _, _, _, _, h5⟩ := hR; have h5 := h5.1; rw [size_alloc] at h5; exact h5
  have HB := Aside0.mk (below_step (below_alloc (Below.refl w.heap.size w) _) hb)
  clear hR hb C0
  go_wp2_with fail
  refine (Text_calls g _ ⟨[0, 0, 0, 3, 97, 98], false⟩ _ HR.out (by decide)).mono ?_
  rintro e w2 ⟨v0, rfl, hV, hR, hG⟩
  have e1 : (⟨[0, 0, 0, 3, 97, 98], false⟩ : Rs).text = ([], ⟨[97, 98], true⟩) := by kernel_rfl
  rw [e1] at hV hR
  obtain ⟨A1, c1, ev⟩ := Kd.R_slice hV
  subst ev
  have HR2 := Aside0.mk hR
  have HB2 := Aside0.mk (HB.out.grown hG HB.out.size (fun k hk => by injection hk with hk; omega))
  clear hR hG hV HR HB e1
  go_wp2_with fail
  refine (Uint_any none 0 [] 258 _ (Kd.C_nil _ _) (by decide) (by decide) (by decide)).mono ?_
  rintro e w3 ⟨v3, rfl, hV, hb⟩
  have hcv3 := str_own hV
  rw [show strOfNums ([] ++ beN 8 258) = ⟨#[0, 0, 0, 0, 0, 0, 1, 2]⟩ from by kernel_rfl] at hcv3
  have HR3 := Aside0.mk (HR2.out.below hb)
  have HB3 := Aside0.mk (below_step HB2.out hb)
  clear hV hb HR2 HB2
  go_wp2_with fail
  refine (Byte_any (some ⟨w3.heap.size, 0, none⟩) 1 [1] 7 _ (C_block (xs := [1]) (heap_new _ _) rfl (by decide)) (by decide) (by decide) (by decide)).mono ?_
  rintro e w4 ⟨v4, rfl, hV, hb⟩
  have hcv4 := str_own hV
  rw [show strOfNums ([1] ++ beN 1 7) = ⟨#[1, 7]⟩ from by kernel_rfl] at hcv4
  have HR4 := Aside0.mk ((HR3.out.alloc (.cells #[.int .u8 1] 5)).below hb)
  have HB4 := Aside0.mk (below_step (below_alloc HB3.out _) hb)
  clear hV hb hcv3 HR3 HB3
  go_wp2_with fail
  refine (Text_any none 0 [] (some ⟨w4.heap.size, 0, none⟩) 2 [97, 98] _ (Kd.C_nil _ _) (C_block (xs := [97, 98]) (heap_new _ _) rfl (by decide)) (by decide)).mono ?_
  rintro e w5 ⟨v5, rfl, hV, hb⟩
  have hcv5 := str_own hV
  rw [show strOfNums ([] ++ beN 4 ([97, 98] : List Int).length ++ [97, 98]) = ⟨#[0, 0, 0, 2, 97, 98]⟩ from by kernel_rfl] at hcv5
  have HR5 := Aside0.mk ((HR4.out.alloc (.cells #[.int .u8 97, .int .u8 98] 5 (2, 3))).below hb)
  have HB5 := Aside0.mk (below_step (below_alloc HB4.out _) hb)
  clear hV hb hcv4 HR4 HB4
  go_wp2_with fail
  refine (Done_calls g _ ⟨[97, 98], true⟩ _ HR5.out (by decide)).mono ?_
  rintro e w6 ⟨rfl, rfl⟩
  rw [show (⟨[97, 98], true⟩ : Rs).done = 21 from rfl]
  go_wp2
  go_ret
  exact ⟨rfl, HB5.out⟩
end Go.Proofs.Ytbiidbiammppiaa.Ext
