/- The contracts together; the example: the walk. -/
import Derived.Test.YtimdoddaaelfjaaSSplit2
import Derived.Test.YtimdoddaaelfjaaSPro
namespace Go.Proofs.Ytimdoddaaelfjaa.Ext
open Go.RowKit Go.Proofs.YtimdoddaaelfjaaW.PrintWords Go.Proofs.YtimdoddaaelfjaaW.PrintLast Go.Proofs.YtimdoddaaelfjaaW.PrintMore Go.Proofs.YtimdoddaaelfjaaW.Hand
set_option linter.unusedVariables false
theorem split_calls {n c : Nat} (t : Int) (A : Option Addr) (ws : List Int) (hn : ws.length = n) (w : World) (hr : Kd.C (Kd.int .i64) w A n ws) (hc : n ≤ c) (ht : I64 t) (hw : ∀ x ∈ ws, I64 x) (hm : n ≤ 9223372036854775807) :
    Calls Try.prog 8 #[.int .i64 t, .slice A n c] w fun e w' => SplitPost t ws w e w' := by
  by_cases he : ws.length ≤ 100 ∧ 0 ≤ t ∧ (∀ x ∈ ws, 0 ≤ x) ∧ I64 ws.sum ∧ 0 < ws.sum
  · obtain ⟨h1, h2, h3, h4, h5⟩ := he
    exact split_ok t A ws hn w hr hc ht hw (by omega) h2 h3 h4 h5
  · exact split_err t A ws hn w hr hc ht hw hm he
theorem refsplit_calls {n c : Nat} (t : Int) (A : Option Addr) (ws : List Int) (hn : ws.length = n) (w : World) (hr : Kd.C (Kd.int .i64) w A n ws) (hc : n ≤ c) (ht : I64 t) (hw : ∀ x ∈ ws, I64 x) (hm : n ≤ 9223372036854775807) (l : List Int) (e : Int) (hx : SplitIs t ws l e) :
    Calls Try.prog 9 #[.int .i64 t, .slice A n c] w fun e w' => SplitPost t ws w e w' := by
  by_cases h1 : 100 < ws.length ∨ t < 0 ∨ ∃ x ∈ ws, x < 0
  · exact ref_neg t A ws hn w hr hc ht hw hm (by rw [← hn]; exact h1)
  · have hnn := nn_of (fun x => h1 (.inr (.inr x)))
    have h100 : n ≤ 100 := by
      by_cases x : 100 < ws.length
      · exact (h1 (.inl x)).elim
      · omega
    have ht0 : 0 ≤ t := by
      by_cases x : t < 0
      · exact (h1 (.inr (.inl x))).elim
      · omega
    by_cases h2 : I64 ws.sum
    · by_cases h3 : ws.sum = 0
      · exact ref_none t A ws hn w hr hc ht hw hm ht0 h100 hnn h3
      · unfold SplitIs at hx
        rw [if_neg h1, if_neg (fun h => h h2), if_neg h3] at hx
        obtain ⟨_, f, hf, _⟩ := hx
        have hs := sum_take_le ws hnn 0
        simp at hs
        exact ref_ok t A ws hn w hr hc ht hw hm ht0 h100 hnn h2 (by omega) f hf
    · exact ref_over t A ws hn w hr hc ht hw hm ht0 h100 hnn h2
theorem split_10 : SplitIs 10 [1, 1, 1] [4, 3, 3] 0 := by
  unfold SplitIs
  rw [if_neg (by rintro (h | h | ⟨x, hx, h⟩); simp at h; omega; simp at hx; omega), if_neg (fun h => h (by unfold I64; decide)), if_neg (by decide)]
  refine ⟨rfl, fun k => k, ⟨fun i j _ x y => .inr ⟨?_, x⟩, Sh.refl _ _ _⟩, by decide⟩
  have hi : i = 0 ∨ i = 1 := by simp at y; omega
  have hj : j = 1 ∨ j = 2 := by simp at y; omega
  rcases hi with rfl | rfl <;> rcases hj with rfl | rfl <;> decide
theorem pok_10 : POk [10, 11] [1, 1] 3 := ⟨rfl, by decide, by decide, by decide, by decide, by decide, by decide⟩
theorem pro_10 : ProIs [10, 11] [1, 1] 3 [3, 4] 0 := ⟨fun _ => ⟨rfl, by decide⟩, fun h => (h pok_10).elim⟩
set_option maxRecDepth 100000 in
set_option maxHeartbeats 6400000 in
theorem goes_calls (w : World) : Calls Try.prog 11 #[] w fun e w' => e = .returned (.bool true) ∧ Below w.heap.size w w' := by
  have i1 : ∀ x ∈ ([1, 1, 1] : List Int), I64 x := by unfold I64; decide
  have k1 := Aside0.mk (split_calls (c := 3) 10 (some ⟨w.heap.size, 0, none⟩) [1, 1, 1] rfl (w.alloc (.cells #[.int .i64 1, .int .i64 1, .int .i64 1] 2)) (C_block (Blk.new_ (W := w)).out rfl (by decide)) (by decide) (by unfold I64; decide) i1 (by decide))
  have k2 : Aside0 (∀ W : World, Calls Try.prog 12 #[.slice (some ⟨W.heap.size, 0, none⟩) 2 2, .slice (some ⟨W.heap.size + 1, 0, none⟩) 2 2, .int .i64 3] ((W.alloc (.cells #[.int .i64 10, .int .i64 11] 2)).alloc (.cells #[.int .i64 1, .int .i64 1] 2)) fun e w' => ProPost [10, 11] [1, 1] 3 ((W.alloc (.cells #[.int .i64 10, .int .i64 11] 2)).alloc (.cells #[.int .i64 1, .int .i64 1] 2)) e w') :=
    ⟨fun W => prorate_calls (c := 2) (c' := 2) (some ⟨W.heap.size, 0, none⟩) (some ⟨W.heap.size + 1, 0, none⟩) [10, 11] [1, 1] 3 rfl rfl _ (C_block (Blk.alloc (Blk.new_ (W := W))).out rfl (by decide)) (C_block (Blk.new (by rw [size_alloc])).out rfl (by decide)) (by unfold I64; decide) (by decide) (by decide)⟩
  have k3 : Aside0 (∀ (W : World) (A : Option Addr) (c : Nat), Kd.C (Kd.int .i64) W A 3 [4, 3, 3] → Calls Try.prog 10 #[.slice A 3 c, .slice (some ⟨W.heap.size, 0, none⟩) 3 3] (W.alloc (.cells #[.int .i64 4, .int .i64 3, .int .i64 3] 2)) fun e w' => e = .returned (.bool true) ∧ Below W.heap.size W w') :=
    ⟨fun W A c h => (numbers_calls (c1 := c) (c2 := 3) A (some ⟨W.heap.size, 0, none⟩) [4, 3, 3] [4, 3, 3] rfl rfl _ (Kd.C_below h (below_alloc (Below.refl _ _) _)) (C_block (Blk.new_ (W := W)).out rfl (by decide)) (by decide)).mono (by rintro e w' ⟨rfl, q, rfl⟩; exact ⟨rfl, pw_below_drewN (below_alloc (Below.refl _ _) _) q⟩)⟩
  have k4 : Aside0 (∀ (W : World) (A : Option Addr) (c : Nat), Kd.C (Kd.int .i64) W A 2 [3, 4] → Calls Try.prog 10 #[.slice A 2 c, .slice (some ⟨W.heap.size, 0, none⟩) 2 2] (W.alloc (.cells #[.int .i64 3, .int .i64 4] 2)) fun e w' => e = .returned (.bool true) ∧ Below W.heap.size W w') :=
    ⟨fun W A c h => (numbers_calls (c1 := c) (c2 := 2) A (some ⟨W.heap.size, 0, none⟩) [3, 4] [3, 4] rfl rfl _ (Kd.C_below h (below_alloc (Below.refl _ _) _)) (C_block (Blk.new_ (W := W)).out rfl (by decide)) (by decide)).mono (by rintro e w' ⟨rfl, q, rfl⟩; exact ⟨rfl, pw_below_drewN (below_alloc (Below.refl _ _) _) q⟩)⟩
  go_enter Try.func11, Try.ntmps11
  go_wp2_with (first | (go_at_call 8; refine k1.out.mono ?_; rintro e w1 ⟨A1, c1, e1, l1, rfl, hC1, hS1, hb1, hl1⟩; obtain ⟨rfl, he1⟩ := hS1.unique split_10; obtain rfl : e1 = 0 := (by omega); have HB1 := Aside0.mk (below_step' (below_alloc (Below.refl _ _) _) hb1); have HC1 := Aside0.mk hC1; clear hC1 hS1 hb1 hl1 he1 k1) | (go_at_call 12; refine (k2.out _).mono ?_; rintro e w2 ⟨A2, c2, e2, l2, rfl, hC2, hS2, hb2, hl2⟩; obtain ⟨rfl, he2⟩ := hS2.unique pro_10; obtain rfl : e2 = 0 := (by omega); have HB2 := Aside0.mk (below_step' (below_alloc (below_alloc (Below.refl _ _) _) _) hb2); have HC2 := Aside0.mk hC2; have HD2 := Aside0.mk (Kd.C_below HC1.out HB2.out); clear hC2 hS2 hb2 hl2 he2 k2) | (go_at_call 10; refine (k3.out _ _ _ HD2.out).mono ?_; rintro e w3 ⟨rfl, hb3⟩; have HB3 := Aside0.mk hb3; have HE3 := Aside0.mk (Kd.C_below HC2.out hb3); clear hb3 k3) | (go_at_call 10; refine (k4.out _ _ _ HE3.out).mono ?_; rintro e w4 ⟨rfl, hb4⟩; have HB4 := Aside0.mk hb4; clear hb4 k4))
  go_ret
  exact ⟨rfl, below_step' (below_step' (below_step' HB1.out HB2.out) HB3.out) HB4.out⟩
end Go.Proofs.Ytimdoddaaelfjaa.Ext
