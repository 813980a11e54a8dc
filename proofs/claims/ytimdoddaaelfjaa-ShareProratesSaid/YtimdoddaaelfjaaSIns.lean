/- Insertion of a block: the walk. -/
import Derived.Test.YtimdoddaaelfjaaSRot
import Derived.Shelf.Abstract
namespace Go.Proofs.Ytimdoddaaelfjaa.Ext
open Go.RowKit Go.Proofs.YtimdoddaaelfjaaW.PrintWords Go.Proofs.YtimdoddaaelfjaaW.PrintLast Go.Proofs.YtimdoddaaelfjaaW.PrintMore Go.Proofs.YtimdoddaaelfjaaW.Hand
set_option linter.unusedVariables false
/-- What the sort and its parts leave: the block g alone has changed, it holds f'. -/
def Left (g n : Nat) (w w' : World) (a b : Nat) (r : Nat → Int) (f : Nat → Nat) : Prop := Upd g w w' ∧ ∃ f', RowAt w' g n f' ∧ Srt r f' a b ∧ Sh a b f' f
theorem cmp_any {gb gr n cap : Nat} {r : Nat → Int} {w : World} (h : RestsAt w gb gr n cap r) (x y : Nat) (hx : x < n) (hy : y < n) : Aside0 (∀ m,
    Calls Try.prog 18 #[.int .i64 x, .int .i64 y, .pointer (some ⟨gb, 0, none⟩)] (w.drewN m) fun e w' => e = .returned (.int .i64 (cmpv r x y)) ∧ ∃ q, w' = (w.drewN m).drewN q) :=
  ⟨fun m => cmp_calls x y _ (h.drewN m) hx hy⟩
set_option maxRecDepth 100000 in
set_option maxHeartbeats 3200000 in
theorem insertion_calls {g n cap gb gr capr : Nat} {r : Nat → Int} (a b : Nat) (f : Nat → Nat) (w : World) (hR : RowAt w g n f) (hX : RestsAt w gb gr n capr r) (hgb : gb ≠ g) (hgr : gr ≠ g) (hab : a ≤ b) (hb : b ≤ n)
    (hid : ∀ k, a ≤ k → k < b → f k = k) (hn : n < 4611686018427387904) :
    Calls Try.prog 35 #[.slice (some ⟨g, 0, none⟩) n cap, .int .i64 a, .int .i64 b, .func (.func 18) #[] #[.pointer (some ⟨gb, 0, none⟩)]] w fun e w' => e = .returned (.tuple #[]) ∧ Left g n w w' a b r f := by
  have HR := Aside0.mk hR
  have HX := Aside0.mk hX
  have HID := Aside0.mk hid
  have HGB := Aside0.mk hgb
  have HGR := Aside0.mk hgr
  clear hR hX hid hgb hgr
  have q1 : IntKind.i64.wrap ((a : Int) + 1) = ((a + 1 : Nat) : Int) := by rw [IntKind.wrap_i64]; omega
  go_enter Try.func35, Try.ntmps35
  go_wp2
  go_loopw [8] (fun vi wr => ∃ (i : Nat) (fc : Nat → Nat), vi = .int .i64 i ∧ a + 1 ≤ i ∧ (i ≤ b ∨ i = a + 1) ∧ Aside0 (i = a + 1 → fc = f) ∧ Aside0 (InsOut r a i f fc) ∧ Aside0 (Upd g w wr) ∧ Aside0 (RowAt wr g n fc)) (fun i _ => b + 1 - (intOf i).toNat)
  case atStart => exact ⟨a + 1, f, rfl, by omega, .inr rfl, ⟨fun _ => rfl⟩, ⟨InsOut.begin⟩, ⟨Upd.refl _ _⟩, HR⟩
  case round =>
    obtain ⟨i, fc, rfl, hi1, hi2, HE, HO, HU, HS⟩ := hrel
    by_cases hlt : i < b
    · have hz : (i : Int) < (b : Int) := by omega
      have hbd : ∀ k, a ≤ k → k < i → fc k < i := fun k hk1 hk2 => by
        obtain ⟨q, q1, q2, e⟩ := HO.out.2.1 k hk1 hk2
        rw [e, HID.out q q1 (by omega)]; exact q2
      have HBD := Aside0.mk hbd
      have hfi : fc i = i := (HO.out.2.2.2 i (by omega)).trans (HID.out i (by omega) hlt)
      have HFI := Aside0.mk hfi
      clear hbd hfi
      go_wp2
      go_loopw [9] (fun vj wr => ∃ (j : Nat) (fj : Nat → Nat), vj = .int .i64 j ∧ a ≤ j ∧ j ≤ i ∧ Aside0 (InsIn r i j fc fj) ∧ Aside0 (Upd g w wr) ∧ Aside0 (RowAt wr g n fj)) (fun j _ => (intOf j).toNat)
      case atStart => exact ⟨i, fc, rfl, by omega, Nat.le_refl _, ⟨InsIn.begin HFI.out⟩, HU, HS⟩
      case round =>
        obtain ⟨j, fj, rfl, hj1, hj2, HI, HV, HT⟩ := hrel
        by_cases hja : a < j
        · have hjz : (a : Int) < (j : Int) := by omega
          obtain ⟨p, hp⟩ : ∃ p, p = j - 1 := ⟨_, rfl⟩
          have P := Aside0.mk (show j = p + 1 by omega)
          have w1 : IntKind.i64.wrap ((j : Int) - 1) = (p : Int) := by rw [IntKind.wrap_i64]; omega
          have l1 : (j : Int) < (n : Int) := by omega
          have l2 : (p : Int) < (n : Int) := by omega
          obtain ⟨v, hv⟩ : ∃ v, v = fc p := ⟨_, rfl⟩
          have e1 : fj p = v := (HI.out.1 p (by omega)).trans hv.symm
          have hvi : v < i := by rw [hv]; exact HBD.out p (by omega) (by omega)
          have VV := Aside0.mk hv
          have c1 := HT.out.cell (i := j) (by omega)
          have c2 := HT.out.cell (i := p) (by omega)
          rw [HI.out.2.1] at c1
          rw [e1] at c2
          have hc := cmp_any (HX.out.upd HV.out HGB.out HGR.out) i v (by omega) (by omega)
          have E1 := Aside0.mk e1
          clear hp hv e1
          by_cases hlv : r v < r i
          · have hz3 : cmpv r i v < 0 := cmpv_neg.2 hlv
            generalize cmpv r i v = z at hc hz3
            go_wp2_with fail
            go_quiet (first | (go_at_call 18; refine Calls.quiet_of (hc.out _)))
            go_wp2_with fail
            have HV2 := Aside0.mk (HV.out.drewN nq)
            have HT2 := Aside0.mk (HT.out.drewN nq)
            clear c1 c2 hc
            generalize wr.drewN nq = w2 at HV2 HT2 ⊢
            have c1 := HT2.out.cell (i := j) (by omega)
            have c2 := HT2.out.cell (i := p) (by omega)
            have f1 := HT2.out.free j
            have f2 := HT2.out.free p
            have c3 := (HT2.out.other (i := j) (j := p) (by omega) (by omega) (by have := P.out; omega) (.int .i64 v)).1
            have f3 := (HT2.out.other (i := j) (j := p) (by omega) (by omega) (by have := P.out; omega) (.int .i64 v)).2
            rw [HI.out.2.1] at c1
            rw [E1.out] at c2 c3
            go_region
            go_wp2_with fail
            go_roundw
            case measure => have := P.out; simp [intOf]; omega
            case rel =>
              have e5 := P.out
              have e6 : j - 1 = p := by omega
              refine ⟨p, sw j p fj, rfl, by omega, by omega, ⟨e6 ▸ HI.out.step (by omega) hj2 (e6.symm ▸ VV.out ▸ (bf_gt hvi).2 hlv)⟩, ⟨((HV2.out.put _ _).put _ _).drew⟩, ⟨RowAt.drew ?_⟩⟩
              · have := HT2.out.swap (i := j) (j := p) (by omega) (by omega)
                rw [HI.out.2.1, E1.out] at this
                exact this
          · have hz3 : ¬ cmpv r i v < 0 := fun h => hlv (cmpv_neg.1 h)
            generalize cmpv r i v = z at hc hz3
            go_wp2_with fail
            go_quiet (first | (go_at_call 18; refine Calls.quiet_of (hc.out _)))
            go_wp2_with fail
            refine ⟨⟨i + 1, fj, by go_num, by omega, .inl (by omega), ⟨fun h => by omega⟩, ⟨HI.out.done HO.out (fun k h1 h2 => HID.out k h1 (by omega)) (by omega) hj2 (.inr ?_)⟩, ⟨HV.out.drewN _⟩, ⟨HT.out.drewN _⟩⟩, by simp [intOf]; omega⟩
            have e5 := P.out
            rw [show j - 1 = p by omega, ← VV.out]; omega
        · have hjz : ¬ (a : Int) < (j : Int) := by omega
          go_wp2_with fail
          go_quiet (fail)
          go_wp2_with fail
          exact ⟨⟨i + 1, fj, by go_num, by omega, .inl (by omega), ⟨fun h => by omega⟩, ⟨HI.out.done HO.out (fun k h1 h2 => HID.out k h1 (by omega)) (by omega) hj2 (.inl (by omega))⟩, ⟨HV.out.drewN _⟩, ⟨HT.out.drewN _⟩⟩, by simp [intOf]; omega⟩
    · have hz : ¬ (i : Int) < (b : Int) := by omega
      go_wp2_with fail
      go_end0
      refine ⟨rfl, HU.out, fc, HS.out, ?_, ?_⟩
      · intro p q h1 h2 h3
        exact HO.out.1 p q h1 h2 (by omega)
      · by_cases e : i = b
        · subst e; exact HO.out.2
        · rw [HE.out (by omega)]; exact Sh.refl _ _ _
end Go.Proofs.Ytimdoddaaelfjaa.Ext
