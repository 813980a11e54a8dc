/- The stable sort of at most 100 places: the walk. -/
import Derived.Test.YtimdoddaaelfjaaSSym3
namespace Go.Proofs.Ytimdoddaaelfjaa.Ext
open Go.RowKit Go.Proofs.YtimdoddaaelfjaaW.PrintWords Go.Proofs.YtimdoddaaelfjaaW.PrintLast Go.Proofs.YtimdoddaaelfjaaW.PrintMore Go.Proofs.YtimdoddaaelfjaaW.Hand
set_option linter.unusedVariables false
/-- All in order, the same ones. -/
def Ord (r : Nat → Int) (n : Nat) (f : Nat → Nat) : Prop := Srt r f 0 n ∧ Sh 0 n f (fun k => k)
/-- Blocks of s ones are in order below a, nothing has been done above. -/
def InsB (r : Nat → Int) (n a : Nat) (f : Nat → Nat) : Prop :=
  (∀ i j, i < j → j < a → i / 20 = j / 20 → bf r (f i) (f j)) ∧ (∀ i, i < a → f i / 20 = i / 20) ∧ (∀ i, a ≤ i → f i = i) ∧ Sh 0 n f (fun k => k)
def MerB (r : Nat → Int) (n s a : Nat) (f : Nat → Nat) : Prop :=
  (∀ i j, i < j → j < a → i / (2 * s) = j / (2 * s) → bf r (f i) (f j)) ∧ (∀ i j, a ≤ i → i < j → j < n → i / s = j / s → bf r (f i) (f j)) ∧ (∀ i, i < a → f i / (2 * s) = i / (2 * s)) ∧ (∀ i, a ≤ i → i < n → f i / s = i / s) ∧ Sh 0 n f (fun k => k)
theorem InsB.begin {r : Nat → Int} {n : Nat} {f : Nat → Nat} (h : ∀ k, f k = k) : InsB r n 0 f := by
  have : f = fun k => k := funext h
  subst this
  exact ⟨fun i j x y => by omega, fun i x => by omega, fun i x => rfl, Sh.refl _ _ _⟩
theorem InsB.step {r : Nat → Int} {n a b : Nat} {f f' : Nat → Nat} (h : InsB r n a f) (ha : a % 20 = 0) (hb : a ≤ b) (hb2 : b ≤ a + 20) (hbn : b ≤ n) (hS : Srt r f' a b) (hX : Sh a b f' f) : InsB r n b f' := by
  obtain ⟨h1, h2, h3, h4⟩ := h
  refine ⟨fun i j x y z => ?_, fun i x => ?_, fun i x => ?_, (hX.wide (Nat.zero_le _) hbn).trans h4⟩
  · by_cases c : j < a
    · rw [hX.2.2 i (.inl (by omega)), hX.2.2 j (.inl c)]; exact h1 i j x c z
    · exact hS i j (by omega) x y
  · by_cases c : i < a
    · rw [hX.2.2 i (.inl c)]; exact h2 i c
    · obtain ⟨q, q1, q2, e⟩ := hX.1 i (by omega) x
      rw [e, h3 q q1]; omega
  · rw [hX.2.2 i (.inr x)]; exact h3 i (by omega)
theorem InsB.merge {r : Nat → Int} {n : Nat} {f : Nat → Nat} (h : InsB r n n f) : MerB r n 20 0 f :=
  ⟨fun i j x y => by omega, fun i j _ x y z => h.1 i j x y z, fun i x => by omega, fun i _ x => h.2.1 i x, h.2.2.2⟩
theorem MerB.two {r : Nat → Int} {n s a b : Nat} {f : Nat → Nat} (h : MerB r n s a f) (hs : s = 20 ∨ s = 40 ∨ s = 80) (ha : a % (2 * s) = 0) (hm : a + s < b) (hb : b ≤ a + 2 * s) (hbn : b ≤ n) : Two r f a (a + s) b := by
  obtain ⟨h1, h2, h3, h4, h5⟩ := h
  refine ⟨fun i j x y z => h2 i j x y (by omega) ?_, fun i j x y z => h2 i j (by omega) y (by omega) ?_, fun i j x y z t => ?_⟩
  · rcases hs with rfl | rfl | rfl <;> omega
  · rcases hs with rfl | rfl | rfl <;> omega
  · have e1 := h4 i x (by omega)
    have e2 := h4 j (by omega) (by omega)
    rcases hs with rfl | rfl | rfl <;> omega
theorem MerB.step {r : Nat → Int} {n s a b : Nat} {f f' : Nat → Nat} (h : MerB r n s a f) (hs : s = 20 ∨ s = 40 ∨ s = 80) (ha : a % (2 * s) = 0) (hb : a ≤ b) (hb2 : b ≤ a + 2 * s) (hbn : b ≤ n) (hS : Srt r f' a b) (hX : Sh a b f' f) : MerB r n s b f' := by
  obtain ⟨h1, h2, h3, h4, h5⟩ := h
  refine ⟨fun i j x y z => ?_, fun i j x y z t => ?_, fun i x => ?_, fun i x y => ?_, (hX.wide (Nat.zero_le _) hbn).trans h5⟩
  · by_cases c : j < a
    · rw [hX.2.2 i (.inl (by omega)), hX.2.2 j (.inl c)]; exact h1 i j x c z
    · refine hS i j ?_ x y
      rcases hs with rfl | rfl | rfl <;> omega
  · rw [hX.2.2 i (.inr x), hX.2.2 j (.inr (by omega))]; exact h2 i j (by omega) y z t
  · by_cases c : i < a
    · rw [hX.2.2 i (.inl c)]; exact h3 i c
    · obtain ⟨q, q1, q2, e⟩ := hX.1 i (by omega) x
      have e2 := h4 q q1 (by omega)
      rw [e]
      rcases hs with rfl | rfl | rfl <;> omega
  · rw [hX.2.2 i (.inr x)]; exact h4 i (by omega) y
theorem MerB.same {r : Nat → Int} {n s a : Nat} {f : Nat → Nat} (h : MerB r n s a f) (hs : s = 20 ∨ s = 40 ∨ s = 80) (ha : a % (2 * s) = 0) (hm : n ≤ a + s) (han : a ≤ n) : MerB r n s n f := by
  refine h.step hs ha han (by omega) (Nat.le_refl _) (fun i j x y z => h.2.1 i j x y z ?_) (Sh.refl _ _ _)
  rcases hs with rfl | rfl | rfl <;> omega
theorem MerB.next {r : Nat → Int} {n s : Nat} {f : Nat → Nat} (h : MerB r n s n f) : MerB r n (2 * s) 0 f :=
  ⟨fun i j x y => by omega, fun i j _ x y z => h.1 i j x y z, fun i x => by omega, fun i _ x => h.2.2.1 i x, h.2.2.2.2⟩
theorem MerB.done {r : Nat → Int} {n s : Nat} {f : Nat → Nat} (h : MerB r n s 0 f) (hs : n ≤ s) : Ord r n f :=
  ⟨fun i j x y z => h.2.1 i j x y z (by rw [Nat.div_eq_of_lt (by omega), Nat.div_eq_of_lt (by omega)]), h.2.2.2.2⟩
theorem Sh.bd {n : Nat} {f : Nat → Nat} (h : Sh 0 n f (fun k => k)) : Bd n f := fun k hk => by
  obtain ⟨q, q1, q2, e⟩ := h.1 k (Nat.zero_le _) hk
  rw [e]; exact q2
set_option maxRecDepth 100000 in
set_option maxHeartbeats 6400000 in
theorem stable_calls {g n cap gb gr capr : Nat} {r : Nat → Int} (w : World) (hR : RowAt w g n (fun k => k)) (hX : RestsAt w gb gr n capr r) (hgb : gb ≠ g) (hgr : gr ≠ g) (hn : n ≤ 100) :
    Calls Try.prog 29 #[.slice (some ⟨g, 0, none⟩) n cap, .int .i64 n, .func (.func 18) #[] #[.pointer (some ⟨gb, 0, none⟩)]] w fun e w' => e = .returned (.tuple #[]) ∧ Upd g w w' ∧ ∃ f', RowAt w' g n f' ∧ Ord r n f' := by
  have HR := Aside0.mk hR
  have HX := Aside0.mk hX
  have HGB := Aside0.mk hgb
  have HGR := Aside0.mk hgr
  clear hR hX hgb hgr
  go_enter Try.func29, Try.ntmps29
  go_wp2
  go_loopw [7, 8] (fun va vb wr => ∃ (a b : Nat) (f : Nat → Nat), va = .int .i64 a ∧ vb = .int .i64 b ∧ b = a + 20 ∧ a % 20 = 0 ∧ a ≤ n ∧ Aside0 (InsB r n a f) ∧ Aside0 (Upd g w wr) ∧ Aside0 (RowAt wr g n f)) (fun i _ _ => 200 - (intOf i).toNat)
  case atStart => exact ⟨0, 20, _, rfl, rfl, rfl, rfl, Nat.zero_le _, ⟨InsB.begin fun _ => rfl⟩, ⟨Upd.refl _ _⟩, HR⟩
  case round =>
    obtain ⟨a, b, f, rfl, rfl, hab, ha, han, HI, HU, HS⟩ := hrel
    have HAB := Aside0.mk hab
    by_cases hlt : b ≤ n
    · have hz : (b : Int) ≤ (n : Int) := by omega
      have k1 := Aside0.mk (insertion_calls (cap := cap) a b f wr HS.out (HX.out.upd HU.out HGB.out HGR.out) HGB.out HGR.out (by omega) hlt (fun k x y => HI.out.2.2.1 k x) (by omega))
      have w1 : IntKind.i64.wrap ((b : Int) + 20) = ((b + 20 : Nat) : Int) := by rw [IntKind.wrap_i64]; omega
      clear hab
      go_wp2_with (go_at_call 35; refine k1.out.mono ?_; rintro e w1 ⟨rfl, hu, f1, hs, s1, x1⟩; have HU1 := Aside0.mk (HU.out.trans hu); have HS1 := Aside0.mk hs; have S1 := Aside0.mk s1; have X1 := Aside0.mk x1; clear hu hs s1 x1)
      have hab := HAB.out
      go_roundw
      case measure => simp [intOf]; omega
      case rel => exact ⟨b, b + 20, f1, rfl, by go_num, rfl, by omega, hlt, ⟨HI.out.step ha (by omega) (by omega) hlt S1.out X1.out⟩, HU1, HS1⟩
    · have hz : ¬ (b : Int) ≤ (n : Int) := by omega
      have k1 := Aside0.mk (insertion_calls (cap := cap) a n f wr HS.out (HX.out.upd HU.out HGB.out HGR.out) HGB.out HGR.out (by omega) (Nat.le_refl _) (fun k x y => HI.out.2.2.1 k x) (by omega))
      clear hab
      go_wp2_with (go_at_call 35; refine k1.out.mono ?_; rintro e w1 ⟨rfl, hu, f1, hs, s1, x1⟩; have HU1 := Aside0.mk (HU.out.trans hu); have HS1 := Aside0.mk hs; have M1 := Aside0.mk ((HI.out.step ha han (by have := HAB.out; omega) (Nat.le_refl _) s1 x1).merge); clear hu hs s1 x1)
      go_loopw [6] (fun vs wr => ∃ (s : Nat) (f : Nat → Nat), vs = .int .i64 s ∧ (s = 20 ∨ s = 40 ∨ s = 80 ∨ s = 160) ∧ Aside0 (MerB r n s 0 f) ∧ Aside0 (Upd g w wr) ∧ Aside0 (RowAt wr g n f)) (fun i _ => 200 - (intOf i).toNat)
      case atStart => exact ⟨20, f1, rfl, .inl rfl, M1, HU1, HS1⟩
      case round =>
        obtain ⟨s, f2, rfl, hs, HM, HV, HT⟩ := hrel
        by_cases hsn : s < n
        · have hsz : (s : Int) < (n : Int) := by omega
          have hs3 : s = 20 ∨ s = 40 ∨ s = 80 := by omega
          have HS3 := Aside0.mk hs3
          obtain ⟨d, hd⟩ : ∃ d, d = 2 * s := ⟨_, rfl⟩
          have HD := Aside0.mk hd
          have w2 : IntKind.i64.wrap (2 * (s : Int)) = (d : Int) := by rw [IntKind.wrap_i64]; omega
          have w3 : IntKind.i64.wrap ((s : Int) * 2) = (d : Int) := by rw [IntKind.wrap_i64]; omega
          have hd100 : d ≤ 160 ∧ s ≤ 80 ∧ 20 ≤ s := by omega
          clear hs hs3 hd
          go_wp2
          go_loopw [7, 8] (fun va vb wr => ∃ (a b : Nat) (f : Nat → Nat), va = .int .i64 a ∧ vb = .int .i64 b ∧ Aside0 (b = a + 2 * s) ∧ Aside0 (a % (2 * s) = 0) ∧ a ≤ n ∧ Aside0 (MerB r n s a f) ∧ Aside0 (Upd g w wr) ∧ Aside0 (RowAt wr g n f)) (fun i _ _ => 200 - (intOf i).toNat)
          case atStart => exact ⟨0, d, f2, rfl, rfl, ⟨by have := HD.out; omega⟩, ⟨by simp⟩, Nat.zero_le _, HM, HV, HT⟩
          case round =>
            obtain ⟨a, b, f, rfl, rfl, HAB, HA, han, HI, HU, HS⟩ := hrel
            have hbd : b = a + d := by have e1 := HAB.out; have e2 := HD.out; omega
            obtain ⟨m, hm⟩ : ∃ m, m = a + s := ⟨_, rfl⟩
            have HMM := Aside0.mk hm
            have w4 : IntKind.i64.wrap ((a : Int) + (s : Int)) = (m : Int) := by rw [IntKind.wrap_i64]; omega
            by_cases hlt : b ≤ n
            · have hz : (b : Int) ≤ (n : Int) := by omega
              have hT := HI.out.two HS3.out HA.out (b := b) (by have := HAB.out; omega) (by have := HAB.out; omega) hlt
              rw [← hm] at hT
              have k1 := Aside0.mk (symMerge_calls (cap := cap) HGB.out HGR.out (by omega) (b - a) a m b f wr (Nat.le_refl _) HS.out (HX.out.upd HU.out HGB.out HGR.out) (by omega) (by have := HAB.out; omega) hlt HI.out.2.2.2.2.bd hT)
              obtain ⟨b2, hb2⟩ : ∃ b2, b2 = b + d := ⟨_, rfl⟩
              have HB2 := Aside0.mk hb2
              have w1 : IntKind.i64.wrap ((b : Int) + (d : Int)) = (b2 : Int) := by rw [IntKind.wrap_i64]; omega
              have HBD := Aside0.mk hbd
              clear hbd hm hb2 hT
              go_wp2_with (go_at_call 36; refine k1.out.mono ?_; rintro e w1 ⟨rfl, hu, f1, hs, s1, x1⟩; have HU1 := Aside0.mk (HU.out.trans hu); have HS1 := Aside0.mk hs; have S1 := Aside0.mk s1; have X1 := Aside0.mk x1; clear hu hs s1 x1)
              have hbd := HBD.out
              go_roundw
              case measure => have e2 := HD.out; simp [intOf]; omega
              case rel =>
                have e1 := HAB.out; have e2 := HD.out; have e3 := HB2.out; have e4 := HA.out; have e5 := HS3.out
                exact ⟨b, b2, _, rfl, rfl, ⟨by omega⟩, ⟨by rcases e5 with rfl | rfl | rfl <;> omega⟩, hlt, ⟨HI.out.step HS3.out HA.out (by omega) (by omega) hlt S1.out X1.out⟩, HU1, HS1⟩
            · have hz : ¬ (b : Int) ≤ (n : Int) := by omega
              have HBD := Aside0.mk hbd
              by_cases hmn : m < n
              · have hmz : (m : Int) < (n : Int) := by omega
                have hT := HI.out.two HS3.out HA.out (b := n) (by omega) (by have := HAB.out; omega) (Nat.le_refl _)
                rw [← hm] at hT
                have k1 := Aside0.mk (symMerge_calls (cap := cap) HGB.out HGR.out (by omega) (n - a) a m n f wr (Nat.le_refl _) HS.out (HX.out.upd HU.out HGB.out HGR.out) (by omega) hmn (Nat.le_refl _) HI.out.2.2.2.2.bd hT)
                clear hbd hm hT
                go_wp2_with (go_at_call 36; refine k1.out.mono ?_; rintro e w1 ⟨rfl, hu, f1, hs, s1, x1⟩; have HU1 := Aside0.mk (HU.out.trans hu); have HS1 := Aside0.mk hs; have S1 := Aside0.mk s1; have X1 := Aside0.mk x1; clear hu hs s1 x1)
                go_roundw
                case measure => have e2 := HD.out; simp [intOf]; omega
                case rel =>
                  have e1 := HAB.out; have e2 := HD.out; have e5 := HS3.out
                  refine ⟨d, _, rfl, by omega, ⟨?_⟩, HU1, HS1⟩
                  rw [e2]
                  exact (HI.out.step HS3.out HA.out han (by omega) (Nat.le_refl _) S1.out X1.out).next
              · have hmz : ¬ (m : Int) < (n : Int) := by omega
                clear hbd hm
                go_wp2_with fail
                go_roundw
                case measure => have e2 := HD.out; simp [intOf]; omega
                case rel =>
                  have e2 := HD.out; have e5 := HS3.out
                  refine ⟨d, f, rfl, by omega, ⟨?_⟩, HU, HS⟩
                  rw [e2]
                  exact (HI.out.same HS3.out HA.out (by have := HMM.out; omega) han).next
        · have hsz : ¬ (s : Int) < (n : Int) := by omega
          go_wp2_with fail
          go_end0
          exact ⟨rfl, HV.out, f2, HT.out, HM.out.done (by omega)⟩
set_option maxRecDepth 100000 in
theorem sort_calls {g n cap gb gr capr : Nat} {r : Nat → Int} (w : World) (hR : RowAt w g n (fun k => k)) (hX : RestsAt w gb gr n capr r) (hgb : gb ≠ g) (hgr : gr ≠ g) (hn : n ≤ 100) :
    Calls Try.prog 17 #[.slice (some ⟨g, 0, none⟩) n cap, .func (.func 18) #[] #[.pointer (some ⟨gb, 0, none⟩)]] w fun e w' => e = .returned (.tuple #[]) ∧ Upd g w w' ∧ ∃ f', RowAt w' g n f' ∧ Ord r n f' := by
  have k1 := Aside0.mk (stable_calls (cap := cap) w hR hX hgb hgr hn)
  clear hR hX hgb hgr
  go_enter Try.func17, Try.ntmps17
  go_wp2_with (go_at_call 29; refine k1.out.mono ?_; rintro e w1 ⟨rfl, hu, f1, hs, s1⟩; have HU1 := Aside0.mk hu; have HS1 := Aside0.mk hs; have S1 := Aside0.mk s1; clear hu hs s1)
  go_end0
  exact ⟨rfl, HU1.out, f1, HS1.out, S1.out⟩
end Go.Proofs.Ytimdoddaaelfjaa.Ext
