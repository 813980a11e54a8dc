/- The comparison of places by their rests; exchanges of blocks and rotations: walks of the code. -/
import Derived.Test.YtimdoddaaelfjaaSRow
import Derived.Test.YtimdoddaaelfjaaExt1
import Derived.Deep.QuietTactic
import Derived.OwnWalk
namespace Go.Proofs.Ytimdoddaaelfjaa.Ext
open Go.RowKit Go.Proofs.YtimdoddaaelfjaaW.PrintWords Go.Proofs.YtimdoddaaelfjaaW.PrintLast Go.Proofs.YtimdoddaaelfjaaW.PrintMore Go.Proofs.YtimdoddaaelfjaaW.Hand
set_option linter.unusedVariables false
theorem RestsAt.drewN {W : World} {gb gr n cap : Nat} {r : Nat → Int} (h : RestsAt W gb gr n cap r) (q : Nat) : RestsAt (W.drewN q) gb gr n cap r := by
  obtain ⟨cs, hb, hc⟩ := h.row
  exact ⟨h.box.drewN, cs, hb.drewN, hc⟩
theorem RestsAt.boxc {W : World} {gb gr n cap : Nat} {r : Nat → Int} (h : RestsAt W gb gr n cap r) : W.cell? ⟨gb, 0, none⟩ = some (.slice (some ⟨gr, 0, none⟩) n cap) := by
  rw [h.box.cell]; rfl
set_option maxRecDepth 100000 in
set_option maxHeartbeats 1600000 in
theorem cmp_calls {gb gr n cap : Nat} {r : Nat → Int} (x y : Nat) (w : World) (h : RestsAt w gb gr n cap r) (hx : x < n) (hy : y < n) :
    Calls Try.prog 18 #[.int .i64 x, .int .i64 y, .pointer (some ⟨gb, 0, none⟩)] w fun e w' => e = .returned (.int .i64 (cmpv r x y)) ∧ ∃ q, w' = w.drewN q := by
  have H := Aside0.mk h
  have hxz : (x : Int) < (n : Int) := by omega
  have hyz : (y : Int) < (n : Int) := by omega
  have b0 := h.boxc
  have c0 := h.cell hx
  have c1 := h.cell hy
  clear h
  by_cases h1 : r y < r x
  · have hv : cmpv r x y = -1 := by unfold cmpv; rw [if_pos h1]
    rw [hv]
    go_enter Try.func18, Try.ntmps18
    go_wp2_with fail
    go_quiet (fail)
    go_wp2_with fail
    go_ret
    exact ⟨rfl, _, rfl⟩
  · by_cases h2 : r x < r y
    · have hv : cmpv r x y = 1 := by unfold cmpv; rw [if_neg h1, if_pos h2]
      rw [hv]
      go_enter Try.func18, Try.ntmps18
      go_wp2_with fail
      go_quiet (fail)
      go_wp2_with fail
      have b2 := (H.out.drewN nq).boxc
      have c2 := (H.out.drewN nq).cell hx
      have c3 := (H.out.drewN nq).cell hy
      generalize hw2 : w.drewN nq = w2 at *
      go_quiet (fail)
      go_wp2_with fail
      go_ret
      exact ⟨rfl, _, by rw [← hw2, World.drewN_drewN]⟩
    · have hv : cmpv r x y = 0 := by unfold cmpv; rw [if_neg h1, if_neg h2]
      rw [hv]
      go_enter Try.func18, Try.ntmps18
      go_wp2_with fail
      go_quiet (fail)
      go_wp2_with fail
      have b2 := (H.out.drewN nq).boxc
      have c2 := (H.out.drewN nq).cell hx
      have c3 := (H.out.drewN nq).cell hy
      generalize hw2 : w.drewN nq = w2 at *
      go_quiet (fail)
      go_wp2_with fail
      go_ret
      exact ⟨rfl, _, by rw [← hw2, World.drewN_drewN]⟩
end Go.Proofs.Ytimdoddaaelfjaa.Ext
