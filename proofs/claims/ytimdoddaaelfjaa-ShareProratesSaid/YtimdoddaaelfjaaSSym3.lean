/- The merge in place by a rotation and two merges: the walk. -/
import Derived.Test.YtimdoddaaelfjaaSSym2
namespace Go.Proofs.Ytimdoddaaelfjaa.Ext
open Go.RowKit Go.Proofs.YtimdoddaaelfjaaW.PrintWords Go.Proofs.YtimdoddaaelfjaaW.PrintLast Go.Proofs.YtimdoddaaelfjaaW.PrintMore Go.Proofs.YtimdoddaaelfjaaW.Hand
set_option linter.unusedVariables false
/-- What the search for the cut has found. -/
def CutI (r : Nat → Int) (f : Nat → Nat) (p lo hi st rr : Nat) : Prop := (lo < st → bf r (f (st - 1)) (f (p - (st - 1)))) ∧ (rr < hi → bf r (f (p - rr)) (f rr))
/-- The bounds of the search. -/
structure CutB (a m b mid nn lo hi : Nat) : Prop where
  l1 : a ≤ lo
  l2 : lo ≤ hi
  l3 : hi ≤ mid
  l4 : hi ≤ m
  l5 : nn ≤ lo + b
  l6 : lo = a ∨ nn = lo + b
  l7 : hi = m ∨ hi = mid
  l8 : nn = mid + m
  l9 : a < mid
  l10 : mid < b
theorem cut_ok {r : Nat → Int} {f : Nat → Nat} {a m b mid nn lo hi st e : Nat} (hT : Two r f a m b) (hB : CutB a m b mid nn lo hi) (h1 : lo ≤ st) (h2 : st ≤ hi) (he : e = nn - st) (hI : CutI r f (nn - 1) lo hi st st) (hm : m ≤ b) :
    a ≤ st ∧ st ≤ m ∧ m ≤ e ∧ e ≤ b ∧ st + (e - m) = mid ∧ (∀ i j, a ≤ i → i < mid → mid ≤ j → j < b → bf r (rot st m e f i) (rot st m e f j)) := by
  obtain ⟨l1, l2, l3, l4, l5, l6, l7, l8, l9, l10⟩ := hB
  have hc := hT.cross (s := st) (e := e) (by omega) (by omega) (by omega) (by omega)
    (fun x y => by have := hI.1 (by omega); rw [show nn - 1 - (st - 1) = e by omega] at this; exact this)
    (fun x y => by have := hI.2 (by omega); rw [show nn - 1 - st = e - 1 by omega] at this; exact this)
  rw [show st + (e - m) = mid by omega] at hc
  exact ⟨by omega, by omega, by omega, by omega, by omega, hc⟩
theorem rot_id {s m e : Nat} (f : Nat → Nat) (h1 : s ≤ m) (h2 : m ≤ e) (h : ¬ (s < m ∧ m < e)) : rot s m e f = f := by
  by_cases x : s = m
  · subst x; exact rot_none' h2
  · obtain rfl : m = e := by omega
    exact rot_none h1
theorem cut_join {r : Nat → Int} {f f1 f2 : Nat → Nat} {a m b mid st e : Nat} (h0 : a ≤ st) (h1 : st ≤ m) (h2 : m ≤ e) (h3 : e ≤ b) (h4 : st + (e - m) = mid)
    (hx : ∀ i j, a ≤ i → i < mid → mid ≤ j → j < b → bf r (rot st m e f i) (rot st m e f j)) (s1 : Srt r f1 a mid) (x1 : Sh a mid f1 (rot st m e f)) (s2 : Srt r f2 mid b) (x2 : Sh mid b f2 f1) : Srt r f2 a b ∧ Sh a b f2 f := by
  have := Srt.join (c := mid) (by omega) (by omega) hx s1 x1 s2 x2
  exact ⟨this.1, this.2.trans ((rot_sh f h1 h2).wide h0 h3)⟩
theorem cut_right {r : Nat → Int} {f f1 : Nat → Nat} {a m b mid st e : Nat} (hT : Two r f a m b) (h0 : a ≤ st) (h1 : st ≤ m) (h2 : m ≤ e) (h3 : e ≤ b) (h4 : st + (e - m) = mid) (x1 : Sh a mid f1 (rot st m e f)) : Two r f1 mid e b := by
  have := hT.right h0 h1 h2 h3
  rw [h4] at this
  exact this.same ⟨by omega, h3⟩ (fun i x y => x1.2.2 i (.inr x))
theorem cut_left {r : Nat → Int} {f : Nat → Nat} {a m b mid st e : Nat} (hT : Two r f a m b) (h0 : a ≤ st) (h1 : st ≤ m) (h2 : m ≤ e) (h3 : e ≤ b) (h4 : st + (e - m) = mid) : Two r (rot st m e f) a st mid := by
  have := hT.left h0 h1 h2 h3
  rw [h4] at this
  exact this
set_option maxRecDepth 100000 in
set_option maxHeartbeats 25600000 in
theorem symMerge_stepA {g n cap gb gr capr d : Nat} {r : Nat → Int} (hgb : gb ≠ g) (hgr : gr ≠ g) (hn : n < 4611686018427387904)
    (ih : ∀ (a m b : Nat) (f : Nat → Nat) (w : World), b - a ≤ d → RowAt w g n f → RestsAt w gb gr n capr r → a < m → m < b → b ≤ n → Bd n f → Two r f a m b → Calls Try.prog 36 #[.slice (some ⟨g, 0, none⟩) n cap, .int .i64 a, .int .i64 m, .int .i64 b, .func (.func 18) #[] #[.pointer (some ⟨gb, 0, none⟩)]] w fun e w' => e = .returned (.tuple #[]) ∧ Left g n w w' a b r f)
    (a m b : Nat) (f : Nat → Nat) (w : World) (hd : b - a ≤ d + 1) (hR : RowAt w g n f) (hX : RestsAt w gb gr n capr r) (ha : a + 1 < m) (hm : m + 1 < b) (hb : b ≤ n) (hB : Bd n f) (hT : Two r f a m b) (hway : (a + b) / 2 < m) :
    Calls Try.prog 36 #[.slice (some ⟨g, 0, none⟩) n cap, .int .i64 a, .int .i64 m, .int .i64 b, .func (.func 18) #[] #[.pointer (some ⟨gb, 0, none⟩)]] w fun e w' => e = .returned (.tuple #[]) ∧ Left g n w w' a b r f := by
  have HR := Aside0.mk hR
  have HX := Aside0.mk hX
  have HB := Aside0.mk hB
  have HT := Aside0.mk hT
  have HGB := Aside0.mk hgb
  have HGR := Aside0.mk hgr
  have IH := Aside0.mk ih
  have q0 : IntKind.i64.wrap ((m : Int) - (a : Int)) = ((m - a : Nat) : Int) := by rw [IntKind.wrap_i64]; omega
  have q0' : (((m - a : Nat) : Int) == 1) = false := by rw [beq_eq_false_iff_ne]; omega
  have q1 : IntKind.i64.wrap ((b : Int) - (m : Int)) = ((b - m : Nat) : Int) := by rw [IntKind.wrap_i64]; omega
  have q1' : (((b - m : Nat) : Int) == 1) = false := by rw [beq_eq_false_iff_ne]; omega
  clear hR hX hB hT hgb hgr ih
  obtain ⟨s, hs⟩ : ∃ s, s = a + b := ⟨_, rfl⟩
  obtain ⟨mid, hmid⟩ : ∃ mid, mid = s / 2 := ⟨_, rfl⟩
  obtain ⟨nn, hnn⟩ : ∃ nn, nn = mid + m := ⟨_, rfl⟩
  obtain ⟨p, hp⟩ : ∃ p, p = nn - 1 := ⟨_, rfl⟩
  have hmid2 : 2 * mid ≤ a + b ∧ a + b ≤ 2 * mid + 1 := by omega
  rw [← hs, ← hmid] at hway
  have w1 : IntKind.i64.wrap ((a : Int) + (b : Int)) = (s : Int) := by rw [IntKind.wrap_i64]; omega
  have w2 : IntKind.u64.wrap (s : Int) = (s : Int) := by rw [IntKind.wrap_u64]; omega
  have w3 : (s : Int) / 2 = (mid : Int) := by omega
  have w4 : IntKind.i64.wrap (mid : Int) = (mid : Int) := by rw [IntKind.wrap_i64]; omega
  have w5 : IntKind.u64.wrap (mid : Int) = (mid : Int) := by rw [IntKind.wrap_u64]; omega
  have w6 : IntKind.i64.wrap ((mid : Int) + (m : Int)) = (nn : Int) := by rw [IntKind.wrap_i64]; omega
  have w7 : IntKind.i64.wrap ((nn : Int) - 1) = (p : Int) := by rw [IntKind.wrap_i64]; omega
  obtain ⟨lo, hlo⟩ : ∃ lo, lo = nn - b := ⟨_, rfl⟩
  have w8 : IntKind.i64.wrap ((nn : Int) - (b : Int)) = (lo : Int) := by rw [IntKind.wrap_i64]; omega
  have zz : (mid : Int) < (m : Int) := by omega
  have CB := Aside0.mk (show CutB a m b mid nn lo mid from ⟨by omega, by omega, by omega, by omega, by omega, by omega, by omega, hnn, by omega, by omega⟩)
  clear hlo
  have HP := Aside0.mk hp
  have HNN := Aside0.mk hnn
  have M2 := Aside0.mk hmid2
  clear hs hmid hp hnn hmid2
  go_enter Try.func36, Try.ntmps36
  go_wp2
  go_loopw [20, 21] (fun vi vj wr => ∃ (st rr : Nat), vi = .int .i64 st ∧ vj = .int .i64 rr ∧ lo ≤ st ∧ st ≤ rr ∧ rr ≤ mid ∧ Aside0 (CutI r f p lo mid st rr) ∧ Aside0 (Upd g w wr) ∧ Aside0 (RowAt wr g n f)) (fun i j _ => (intOf j).toNat - (intOf i).toNat)
  case atStart => exact ⟨lo, mid, rfl, rfl, Nat.le_refl _, CB.out.l2, Nat.le_refl _, ⟨fun h => by omega, fun h => by omega⟩, ⟨Upd.refl _ _⟩, HR⟩
  case round =>
    obtain ⟨st, rr, rfl, rfl, hst, hrr, hhi, HI, HU, HS⟩ := hrel
    by_cases hlt : st < rr
    · have hz : (st : Int) < (rr : Int) := by omega
      have cb := CB.out
      obtain ⟨b1, b2, b3, b4, b5, b6, b7, b8, b9, b10⟩ := cb
      have hp := HP.out
      obtain ⟨s2, hs2⟩ : ∃ s2, s2 = st + rr := ⟨_, rfl⟩
      obtain ⟨c, hc0⟩ : ∃ c, c = s2 / 2 := ⟨_, rfl⟩
      obtain ⟨e, he⟩ : ∃ e, e = p - c := ⟨_, rfl⟩
      have y1 : IntKind.i64.wrap ((st : Int) + (rr : Int)) = (s2 : Int) := by rw [IntKind.wrap_i64]; omega
      have y2 : IntKind.u64.wrap (s2 : Int) = (s2 : Int) := by rw [IntKind.wrap_u64]; omega
      have y3 : (s2 : Int) / 2 = (c : Int) := by omega
      have y4 : IntKind.i64.wrap (c : Int) = (c : Int) := by rw [IntKind.wrap_i64]; omega
      have y5 : IntKind.u64.wrap (c : Int) = (c : Int) := by rw [IntKind.wrap_u64]; omega
      have y6 : IntKind.i64.wrap ((p : Int) - (c : Int)) = (e : Int) := by rw [IntKind.wrap_i64]; omega
      have lc : (c : Int) < (n : Int) := by omega
      have le : (e : Int) < (n : Int) := by omega
      have lcn : c < n := by omega
      have len : e < n := by omega
      have l3 : st ≤ c ∧ c < rr := by omega
      obtain ⟨x, y, E1, E2, c1, c2, f1, f2⟩ := HS.out.two (i := e) (j := c) len lcn
      have hc := cmp_any (HX.out.upd HU.out HGB.out HGR.out) x y (by rw [← E1]; exact HB.out _ len) (by rw [← E2]; exact HB.out _ lcn)
      have hxy : y < x := by rw [← E1, ← E2]; exact HT.out.2.2 c e (by omega) (by omega) (by omega) (by omega)
      have EX := Aside0.mk E1
      have EY := Aside0.mk E2
      have EE := Aside0.mk he
      clear E1 E2 hs2 hc0 he lcn len b1 b2 b3 b4 b5 b6 b7 b8 b9 b10 hp
      by_cases hlv : r y < r x
      · have hz3 : decide (cmpv r x y < 0) = true := decide_eq_true (cmpv_neg.2 hlv)
        generalize cmpv r x y = z at hc hz3
        go_wp2_with fail
        go_quiet (first | (go_at_call 18; refine Calls.quiet_of (hc.out _)))
        go_wp2_with fail
        go_roundw
        case measure => simp [intOf]; omega
        case rel => exact ⟨st, c, rfl, rfl, hst, by omega, by omega, ⟨HI.out.1, fun _ => by rw [← EE.out, EX.out, EY.out]; exact (bf_gt hxy).2 hlv⟩, ⟨HU.out.drewN _⟩, ⟨HS.out.drewN _⟩⟩
      · have hz3 : decide (cmpv r x y < 0) = false := decide_eq_false fun h => hlv (cmpv_neg.1 h)
        generalize cmpv r x y = z at hc hz3
        go_wp2_with fail
        go_quiet (first | (go_at_call 18; refine Calls.quiet_of (hc.out _)))
        go_wp2_with fail
        go_roundw
        case measure => simp [intOf]; omega
        case rel => exact ⟨c + 1, rr, by go_num, rfl, by omega, by omega, hhi, ⟨fun _ => by rw [show c + 1 - 1 = c by omega, ← EE.out, EX.out, EY.out]; exact (bf_le hxy).2 (by omega), HI.out.2⟩, ⟨HU.out.drewN _⟩, ⟨HS.out.drewN _⟩⟩
    · obtain rfl : st = rr := by omega
      have hz : ¬ (st : Int) < (st : Int) := by omega
      obtain ⟨e, he⟩ : ∃ e, e = nn - st := ⟨_, rfl⟩
      have y1 : IntKind.i64.wrap ((nn : Int) - (st : Int)) = (e : Int) := by have cb := CB.out; obtain ⟨b1, b2, b3, b4, b5, b6, b7, b8, b9, b10⟩ := cb; rw [IntKind.wrap_i64]; omega
      have hi0 := HI.out
      rw [HP.out] at hi0
      obtain ⟨k0, k1, k2, k3, k4, k5⟩ := cut_ok HT.out CB.out hst hhi he hi0 (by omega)
      have KX := Aside0.mk k5
      have HL := Aside0.mk (cut_left HT.out k0 k1 k2 k3 k4)
      have hnm : mid < n := by have := CB.out.l10; omega
      have hab := CB.out.l9
      have hbb := CB.out.l10
      clear k5 hi0 he
      by_cases c0 : st < m ∧ m < e
      · obtain ⟨c0a, c0b⟩ := c0
        have z1 : (st : Int) < (m : Int) := by omega
        have z2 : (m : Int) < (e : Int) := by omega
        have KR := Aside0.mk (fun cv => rotate_calls (cap := cap) st m e f cv wr HS.out c0a c0b (by omega) hn)
        by_cases c1 : a < st ∧ st < mid
        · obtain ⟨c1a, c1b⟩ := c1
          have z3 : (a : Int) < (st : Int) := by omega
          have z4 : (st : Int) < (mid : Int) := by omega
          by_cases c2 : mid < e ∧ e < b
          · obtain ⟨c2a, c2b⟩ := c2
            have z5 : (mid : Int) < (e : Int) := by omega
            have z6 : (e : Int) < (b : Int) := by omega
            (
              go_wp2_with (first | (go_at_call 38; refine (KR.out _).mono ?_; rintro e0 w1 ⟨rfl, hu, hs⟩; have HUC := Aside0.mk (HU.out.trans hu); have HFC := Aside0.mk hs; have HBC := Aside0.mk (HB.out.sh ((rot_sh f k1 k2).wide k0 k3) hb); clear hu hs; have K1 := Aside0.mk (IH.out a st mid (rot st m e f) _ (by omega) HFC.out (HX.out.upd HUC.out HGB.out HGR.out) c1a c1b (by omega) HBC.out HL.out)) | (go_at_call 36; refine K1.out.mono ?_; rintro e0 w2 ⟨rfl, hu, f1, hs, s1, x1⟩; have HU1 := Aside0.mk (HUC.out.trans hu); have HF1 := Aside0.mk hs; have S1 := Aside0.mk s1; have X1 := Aside0.mk x1; have HB1 := Aside0.mk (HBC.out.sh x1 (by omega)); clear hu hs s1 x1 K1; have R2 := Aside0.mk (cut_right HT.out k0 k1 k2 k3 k4 X1.out); have K2 := Aside0.mk (IH.out mid e b _ _ (by omega) HF1.out (HX.out.upd HU1.out HGB.out HGR.out) c2a c2b hb HB1.out R2.out)) | (go_at_call 36; refine K2.out.mono ?_; rintro e0 w3 ⟨rfl, hu, f2, hs, s2, x2⟩; have HU2 := Aside0.mk (HU1.out.trans hu); have HF2 := Aside0.mk hs; have S2 := Aside0.mk s2; have X2 := Aside0.mk x2; clear hu hs s2 x2))
              all_goals go_end0
              all_goals exact ⟨rfl, HU2.out, _, HF2.out, cut_join k0 k1 k2 k3 k4 KX.out S1.out X1.out S2.out X2.out⟩
              )
          · have z56 : decide ((mid : Int) < (e : Int)) = false ∨ decide ((e : Int) < (b : Int)) = false := by
              by_cases x : mid < e
              · exact .inr (decide_eq_false (by omega))
              · exact .inl (decide_eq_false (by omega))
            rcases z56 with z56 | z56 <;> (
              go_wp2_with (first | (go_at_call 38; refine (KR.out _).mono ?_; rintro e0 w1 ⟨rfl, hu, hs⟩; have HUC := Aside0.mk (HU.out.trans hu); have HFC := Aside0.mk hs; have HBC := Aside0.mk (HB.out.sh ((rot_sh f k1 k2).wide k0 k3) hb); clear hu hs; have K1 := Aside0.mk (IH.out a st mid (rot st m e f) _ (by omega) HFC.out (HX.out.upd HUC.out HGB.out HGR.out) c1a c1b (by omega) HBC.out HL.out)) | (go_at_call 36; refine K1.out.mono ?_; rintro e0 w2 ⟨rfl, hu, f1, hs, s1, x1⟩; have HU1 := Aside0.mk (HUC.out.trans hu); have HF1 := Aside0.mk hs; have S1 := Aside0.mk s1; have X1 := Aside0.mk x1; have HB1 := Aside0.mk (HBC.out.sh x1 (by omega)); clear hu hs s1 x1 K1; have R2 := Aside0.mk ((cut_right HT.out k0 k1 k2 k3 k4 X1.out).srt_left (by omega) (by omega)); have HU2 := HU1; have HF2 := HF1; have X2 := Aside0.mk (Sh.refl mid b f1)))
              all_goals go_end0
              all_goals exact ⟨rfl, HU2.out, _, HF2.out, cut_join k0 k1 k2 k3 k4 KX.out S1.out X1.out R2.out X2.out⟩
              )
        · have S1 := Aside0.mk (HL.out.srt_left (by omega) (by omega))
          have z34 : decide ((a : Int) < (st : Int)) = false ∨ decide ((st : Int) < (mid : Int)) = false := by
            by_cases x : a < st
            · exact .inr (decide_eq_false (by omega))
            · exact .inl (decide_eq_false (by omega))
          by_cases c2 : mid < e ∧ e < b
          · obtain ⟨c2a, c2b⟩ := c2
            have z5 : (mid : Int) < (e : Int) := by omega
            have z6 : (e : Int) < (b : Int) := by omega
            rcases z34 with z34 | z34 <;> (
              go_wp2_with (first | (go_at_call 38; refine (KR.out _).mono ?_; rintro e0 w1 ⟨rfl, hu, hs⟩; have HUC := Aside0.mk (HU.out.trans hu); have HFC := Aside0.mk hs; have HBC := Aside0.mk (HB.out.sh ((rot_sh f k1 k2).wide k0 k3) hb); clear hu hs; have HU1 := HUC; have HF1 := HFC; have X1 := Aside0.mk (Sh.refl a mid (rot st m e f)); have HB1 := HBC; have R2 := Aside0.mk (cut_right HT.out k0 k1 k2 k3 k4 X1.out); have K2 := Aside0.mk (IH.out mid e b _ _ (by omega) HF1.out (HX.out.upd HU1.out HGB.out HGR.out) c2a c2b hb HB1.out R2.out)) | (go_at_call 36; refine K2.out.mono ?_; rintro e0 w3 ⟨rfl, hu, f2, hs, s2, x2⟩; have HU2 := Aside0.mk (HU1.out.trans hu); have HF2 := Aside0.mk hs; have S2 := Aside0.mk s2; have X2 := Aside0.mk x2; clear hu hs s2 x2))
              all_goals go_end0
              all_goals exact ⟨rfl, HU2.out, _, HF2.out, cut_join k0 k1 k2 k3 k4 KX.out S1.out X1.out S2.out X2.out⟩
              )
          · have z56 : decide ((mid : Int) < (e : Int)) = false ∨ decide ((e : Int) < (b : Int)) = false := by
              by_cases x : mid < e
              · exact .inr (decide_eq_false (by omega))
              · exact .inl (decide_eq_false (by omega))
            rcases z34 with z34 | z34 <;> rcases z56 with z56 | z56 <;> (
              go_wp2_with (first | (go_at_call 38; refine (KR.out _).mono ?_; rintro e0 w1 ⟨rfl, hu, hs⟩; have HUC := Aside0.mk (HU.out.trans hu); have HFC := Aside0.mk hs; have HBC := Aside0.mk (HB.out.sh ((rot_sh f k1 k2).wide k0 k3) hb); clear hu hs; have HU1 := HUC; have HF1 := HFC; have X1 := Aside0.mk (Sh.refl a mid (rot st m e f)); have HB1 := HBC; have R2 := Aside0.mk ((cut_right HT.out k0 k1 k2 k3 k4 X1.out).srt_left (by omega) (by omega)); have HU2 := HU1; have HF2 := HF1; have X2 := Aside0.mk (Sh.refl mid b (rot st m e f))))
              all_goals go_end0
              all_goals exact ⟨rfl, HU2.out, _, HF2.out, cut_join k0 k1 k2 k3 k4 KX.out S1.out X1.out R2.out X2.out⟩
              )
      · have hid := rot_id f k1 k2 c0
        have HFC := Aside0.mk (show RowAt wr g n (rot st m e f) by rw [hid]; exact HS.out)
        have HBC := Aside0.mk (HB.out.sh ((rot_sh f k1 k2).wide k0 k3) hb)
        have HUC := HU
        clear hid
        have z12 : decide ((st : Int) < (m : Int)) = false ∨ decide ((m : Int) < (e : Int)) = false := by
          by_cases x : st < m
          · exact .inr (decide_eq_false (by omega))
          · exact .inl (decide_eq_false (by omega))
        by_cases c1 : a < st ∧ st < mid
        · obtain ⟨c1a, c1b⟩ := c1
          have z3 : (a : Int) < (st : Int) := by omega
          have z4 : (st : Int) < (mid : Int) := by omega
          by_cases c2 : mid < e ∧ e < b
          · obtain ⟨c2a, c2b⟩ := c2
            have z5 : (mid : Int) < (e : Int) := by omega
            have z6 : (e : Int) < (b : Int) := by omega
            have K1 := Aside0.mk (IH.out a st mid (rot st m e f) _ (by omega) HFC.out (HX.out.upd HUC.out HGB.out HGR.out) c1a c1b (by omega) HBC.out HL.out)
            rcases z12 with z12 | z12 <;> (
              go_wp2_with (first | (go_at_call 36; refine K1.out.mono ?_; rintro e0 w2 ⟨rfl, hu, f1, hs, s1, x1⟩; have HU1 := Aside0.mk (HUC.out.trans hu); have HF1 := Aside0.mk hs; have S1 := Aside0.mk s1; have X1 := Aside0.mk x1; have HB1 := Aside0.mk (HBC.out.sh x1 (by omega)); clear hu hs s1 x1 K1; have R2 := Aside0.mk (cut_right HT.out k0 k1 k2 k3 k4 X1.out); have K2 := Aside0.mk (IH.out mid e b _ _ (by omega) HF1.out (HX.out.upd HU1.out HGB.out HGR.out) c2a c2b hb HB1.out R2.out)) | (go_at_call 36; refine K2.out.mono ?_; rintro e0 w3 ⟨rfl, hu, f2, hs, s2, x2⟩; have HU2 := Aside0.mk (HU1.out.trans hu); have HF2 := Aside0.mk hs; have S2 := Aside0.mk s2; have X2 := Aside0.mk x2; clear hu hs s2 x2))
              all_goals go_end0
              all_goals exact ⟨rfl, HU2.out, _, HF2.out, cut_join k0 k1 k2 k3 k4 KX.out S1.out X1.out S2.out X2.out⟩
              )
          · have z56 : decide ((mid : Int) < (e : Int)) = false ∨ decide ((e : Int) < (b : Int)) = false := by
              by_cases x : mid < e
              · exact .inr (decide_eq_false (by omega))
              · exact .inl (decide_eq_false (by omega))
            have K1 := Aside0.mk (IH.out a st mid (rot st m e f) _ (by omega) HFC.out (HX.out.upd HUC.out HGB.out HGR.out) c1a c1b (by omega) HBC.out HL.out)
            rcases z12 with z12 | z12 <;> rcases z56 with z56 | z56 <;> (
              go_wp2_with (first | (go_at_call 36; refine K1.out.mono ?_; rintro e0 w2 ⟨rfl, hu, f1, hs, s1, x1⟩; have HU1 := Aside0.mk (HUC.out.trans hu); have HF1 := Aside0.mk hs; have S1 := Aside0.mk s1; have X1 := Aside0.mk x1; have HB1 := Aside0.mk (HBC.out.sh x1 (by omega)); clear hu hs s1 x1 K1; have R2 := Aside0.mk ((cut_right HT.out k0 k1 k2 k3 k4 X1.out).srt_left (by omega) (by omega)); have HU2 := HU1; have HF2 := HF1; have X2 := Aside0.mk (Sh.refl mid b f1)))
              all_goals go_end0
              all_goals exact ⟨rfl, HU2.out, _, HF2.out, cut_join k0 k1 k2 k3 k4 KX.out S1.out X1.out R2.out X2.out⟩
              )
        · have S1 := Aside0.mk (HL.out.srt_left (by omega) (by omega))
          have z34 : decide ((a : Int) < (st : Int)) = false ∨ decide ((st : Int) < (mid : Int)) = false := by
            by_cases x : a < st
            · exact .inr (decide_eq_false (by omega))
            · exact .inl (decide_eq_false (by omega))
          by_cases c2 : mid < e ∧ e < b
          · obtain ⟨c2a, c2b⟩ := c2
            have z5 : (mid : Int) < (e : Int) := by omega
            have z6 : (e : Int) < (b : Int) := by omega
            have HU1 := HUC
            have HF1 := HFC
            have X1 := Aside0.mk (Sh.refl a mid (rot st m e f))
            have HB1 := HBC
            have R2 := Aside0.mk (cut_right HT.out k0 k1 k2 k3 k4 X1.out)
            have K2 := Aside0.mk (IH.out mid e b _ _ (by omega) HF1.out (HX.out.upd HU1.out HGB.out HGR.out) c2a c2b hb HB1.out R2.out)
            rcases z12 with z12 | z12 <;> rcases z34 with z34 | z34 <;> (
              go_wp2_with (first | (go_at_call 36; refine K2.out.mono ?_; rintro e0 w3 ⟨rfl, hu, f2, hs, s2, x2⟩; have HU2 := Aside0.mk (HU1.out.trans hu); have HF2 := Aside0.mk hs; have S2 := Aside0.mk s2; have X2 := Aside0.mk x2; clear hu hs s2 x2))
              all_goals go_end0
              all_goals exact ⟨rfl, HU2.out, _, HF2.out, cut_join k0 k1 k2 k3 k4 KX.out S1.out X1.out S2.out X2.out⟩
              )
          · have z56 : decide ((mid : Int) < (e : Int)) = false ∨ decide ((e : Int) < (b : Int)) = false := by
              by_cases x : mid < e
              · exact .inr (decide_eq_false (by omega))
              · exact .inl (decide_eq_false (by omega))
            have HU1 := HUC
            have HF1 := HFC
            have X1 := Aside0.mk (Sh.refl a mid (rot st m e f))
            have HB1 := HBC
            have R2 := Aside0.mk ((cut_right HT.out k0 k1 k2 k3 k4 X1.out).srt_left (by omega) (by omega))
            have HU2 := HU1
            have HF2 := HF1
            have X2 := Aside0.mk (Sh.refl mid b (rot st m e f))
            rcases z12 with z12 | z12 <;> rcases z34 with z34 | z34 <;> rcases z56 with z56 | z56 <;> (
              go_wp2_with fail
              all_goals go_end0
              all_goals exact ⟨rfl, HU2.out, _, HF2.out, cut_join k0 k1 k2 k3 k4 KX.out S1.out X1.out R2.out X2.out⟩
              )
set_option maxRecDepth 100000 in
set_option maxHeartbeats 25600000 in
theorem symMerge_stepB {g n cap gb gr capr d : Nat} {r : Nat → Int} (hgb : gb ≠ g) (hgr : gr ≠ g) (hn : n < 4611686018427387904)
    (ih : ∀ (a m b : Nat) (f : Nat → Nat) (w : World), b - a ≤ d → RowAt w g n f → RestsAt w gb gr n capr r → a < m → m < b → b ≤ n → Bd n f → Two r f a m b → Calls Try.prog 36 #[.slice (some ⟨g, 0, none⟩) n cap, .int .i64 a, .int .i64 m, .int .i64 b, .func (.func 18) #[] #[.pointer (some ⟨gb, 0, none⟩)]] w fun e w' => e = .returned (.tuple #[]) ∧ Left g n w w' a b r f)
    (a m b : Nat) (f : Nat → Nat) (w : World) (hd : b - a ≤ d + 1) (hR : RowAt w g n f) (hX : RestsAt w gb gr n capr r) (ha : a + 1 < m) (hm : m + 1 < b) (hb : b ≤ n) (hB : Bd n f) (hT : Two r f a m b) (hway : ¬ (a + b) / 2 < m) :
    Calls Try.prog 36 #[.slice (some ⟨g, 0, none⟩) n cap, .int .i64 a, .int .i64 m, .int .i64 b, .func (.func 18) #[] #[.pointer (some ⟨gb, 0, none⟩)]] w fun e w' => e = .returned (.tuple #[]) ∧ Left g n w w' a b r f := by
  have HR := Aside0.mk hR
  have HX := Aside0.mk hX
  have HB := Aside0.mk hB
  have HT := Aside0.mk hT
  have HGB := Aside0.mk hgb
  have HGR := Aside0.mk hgr
  have IH := Aside0.mk ih
  have q0 : IntKind.i64.wrap ((m : Int) - (a : Int)) = ((m - a : Nat) : Int) := by rw [IntKind.wrap_i64]; omega
  have q0' : (((m - a : Nat) : Int) == 1) = false := by rw [beq_eq_false_iff_ne]; omega
  have q1 : IntKind.i64.wrap ((b : Int) - (m : Int)) = ((b - m : Nat) : Int) := by rw [IntKind.wrap_i64]; omega
  have q1' : (((b - m : Nat) : Int) == 1) = false := by rw [beq_eq_false_iff_ne]; omega
  clear hR hX hB hT hgb hgr ih
  obtain ⟨s, hs⟩ : ∃ s, s = a + b := ⟨_, rfl⟩
  obtain ⟨mid, hmid⟩ : ∃ mid, mid = s / 2 := ⟨_, rfl⟩
  obtain ⟨nn, hnn⟩ : ∃ nn, nn = mid + m := ⟨_, rfl⟩
  obtain ⟨p, hp⟩ : ∃ p, p = nn - 1 := ⟨_, rfl⟩
  have hmid2 : 2 * mid ≤ a + b ∧ a + b ≤ 2 * mid + 1 := by omega
  rw [← hs, ← hmid] at hway
  have w1 : IntKind.i64.wrap ((a : Int) + (b : Int)) = (s : Int) := by rw [IntKind.wrap_i64]; omega
  have w2 : IntKind.u64.wrap (s : Int) = (s : Int) := by rw [IntKind.wrap_u64]; omega
  have w3 : (s : Int) / 2 = (mid : Int) := by omega
  have w4 : IntKind.i64.wrap (mid : Int) = (mid : Int) := by rw [IntKind.wrap_i64]; omega
  have w5 : IntKind.u64.wrap (mid : Int) = (mid : Int) := by rw [IntKind.wrap_u64]; omega
  have w6 : IntKind.i64.wrap ((mid : Int) + (m : Int)) = (nn : Int) := by rw [IntKind.wrap_i64]; omega
  have w7 : IntKind.i64.wrap ((nn : Int) - 1) = (p : Int) := by rw [IntKind.wrap_i64]; omega
  have zz : ¬ (mid : Int) < (m : Int) := by omega
  have CB := Aside0.mk (show CutB a m b mid nn a m from ⟨by omega, by omega, by omega, by omega, by omega, by omega, by omega, hnn, by omega, by omega⟩)
  have HP := Aside0.mk hp
  have HNN := Aside0.mk hnn
  have M2 := Aside0.mk hmid2
  clear hs hmid hp hnn hmid2
  go_enter Try.func36, Try.ntmps36
  go_wp2
  go_loopw [20, 21] (fun vi vj wr => ∃ (st rr : Nat), vi = .int .i64 st ∧ vj = .int .i64 rr ∧ a ≤ st ∧ st ≤ rr ∧ rr ≤ m ∧ Aside0 (CutI r f p a m st rr) ∧ Aside0 (Upd g w wr) ∧ Aside0 (RowAt wr g n f)) (fun i j _ => (intOf j).toNat - (intOf i).toNat)
  case atStart => exact ⟨a, m, rfl, rfl, Nat.le_refl _, CB.out.l2, Nat.le_refl _, ⟨fun h => by omega, fun h => by omega⟩, ⟨Upd.refl _ _⟩, HR⟩
  case round =>
    obtain ⟨st, rr, rfl, rfl, hst, hrr, hhi, HI, HU, HS⟩ := hrel
    by_cases hlt : st < rr
    · have hz : (st : Int) < (rr : Int) := by omega
      have cb := CB.out
      obtain ⟨b1, b2, b3, b4, b5, b6, b7, b8, b9, b10⟩ := cb
      have hp := HP.out
      obtain ⟨s2, hs2⟩ : ∃ s2, s2 = st + rr := ⟨_, rfl⟩
      obtain ⟨c, hc0⟩ : ∃ c, c = s2 / 2 := ⟨_, rfl⟩
      obtain ⟨e, he⟩ : ∃ e, e = p - c := ⟨_, rfl⟩
      have y1 : IntKind.i64.wrap ((st : Int) + (rr : Int)) = (s2 : Int) := by rw [IntKind.wrap_i64]; omega
      have y2 : IntKind.u64.wrap (s2 : Int) = (s2 : Int) := by rw [IntKind.wrap_u64]; omega
      have y3 : (s2 : Int) / 2 = (c : Int) := by omega
      have y4 : IntKind.i64.wrap (c : Int) = (c : Int) := by rw [IntKind.wrap_i64]; omega
      have y5 : IntKind.u64.wrap (c : Int) = (c : Int) := by rw [IntKind.wrap_u64]; omega
      have y6 : IntKind.i64.wrap ((p : Int) - (c : Int)) = (e : Int) := by rw [IntKind.wrap_i64]; omega
      have lc : (c : Int) < (n : Int) := by omega
      have le : (e : Int) < (n : Int) := by omega
      have lcn : c < n := by omega
      have len : e < n := by omega
      have l3 : st ≤ c ∧ c < rr := by omega
      obtain ⟨x, y, E1, E2, c1, c2, f1, f2⟩ := HS.out.two (i := e) (j := c) len lcn
      have hc := cmp_any (HX.out.upd HU.out HGB.out HGR.out) x y (by rw [← E1]; exact HB.out _ len) (by rw [← E2]; exact HB.out _ lcn)
      have hxy : y < x := by rw [← E1, ← E2]; exact HT.out.2.2 c e (by omega) (by omega) (by omega) (by omega)
      have EX := Aside0.mk E1
      have EY := Aside0.mk E2
      have EE := Aside0.mk he
      clear E1 E2 hs2 hc0 he lcn len b1 b2 b3 b4 b5 b6 b7 b8 b9 b10 hp
      by_cases hlv : r y < r x
      · have hz3 : decide (cmpv r x y < 0) = true := decide_eq_true (cmpv_neg.2 hlv)
        generalize cmpv r x y = z at hc hz3
        go_wp2_with fail
        go_quiet (first | (go_at_call 18; refine Calls.quiet_of (hc.out _)))
        go_wp2_with fail
        go_roundw
        case measure => simp [intOf]; omega
        case rel => exact ⟨st, c, rfl, rfl, hst, by omega, by omega, ⟨HI.out.1, fun _ => by rw [← EE.out, EX.out, EY.out]; exact (bf_gt hxy).2 hlv⟩, ⟨HU.out.drewN _⟩, ⟨HS.out.drewN _⟩⟩
      · have hz3 : decide (cmpv r x y < 0) = false := decide_eq_false fun h => hlv (cmpv_neg.1 h)
        generalize cmpv r x y = z at hc hz3
        go_wp2_with fail
        go_quiet (first | (go_at_call 18; refine Calls.quiet_of (hc.out _)))
        go_wp2_with fail
        go_roundw
        case measure => simp [intOf]; omega
        case rel => exact ⟨c + 1, rr, by go_num, rfl, by omega, by omega, hhi, ⟨fun _ => by rw [show c + 1 - 1 = c by omega, ← EE.out, EX.out, EY.out]; exact (bf_le hxy).2 (by omega), HI.out.2⟩, ⟨HU.out.drewN _⟩, ⟨HS.out.drewN _⟩⟩
    · obtain rfl : st = rr := by omega
      have hz : ¬ (st : Int) < (st : Int) := by omega
      obtain ⟨e, he⟩ : ∃ e, e = nn - st := ⟨_, rfl⟩
      have y1 : IntKind.i64.wrap ((nn : Int) - (st : Int)) = (e : Int) := by have cb := CB.out; obtain ⟨b1, b2, b3, b4, b5, b6, b7, b8, b9, b10⟩ := cb; rw [IntKind.wrap_i64]; omega
      have hi0 := HI.out
      rw [HP.out] at hi0
      obtain ⟨k0, k1, k2, k3, k4, k5⟩ := cut_ok HT.out CB.out hst hhi he hi0 (by omega)
      have KX := Aside0.mk k5
      have HL := Aside0.mk (cut_left HT.out k0 k1 k2 k3 k4)
      have hnm : mid < n := by have := CB.out.l10; omega
      have hab := CB.out.l9
      have hbb := CB.out.l10
      clear k5 hi0 he
      by_cases c0 : st < m ∧ m < e
      · obtain ⟨c0a, c0b⟩ := c0
        have z1 : (st : Int) < (m : Int) := by omega
        have z2 : (m : Int) < (e : Int) := by omega
        have KR := Aside0.mk (fun cv => rotate_calls (cap := cap) st m e f cv wr HS.out c0a c0b (by omega) hn)
        by_cases c1 : a < st ∧ st < mid
        · obtain ⟨c1a, c1b⟩ := c1
          have z3 : (a : Int) < (st : Int) := by omega
          have z4 : (st : Int) < (mid : Int) := by omega
          by_cases c2 : mid < e ∧ e < b
          · obtain ⟨c2a, c2b⟩ := c2
            have z5 : (mid : Int) < (e : Int) := by omega
            have z6 : (e : Int) < (b : Int) := by omega
            (
              go_wp2_with (first | (go_at_call 38; refine (KR.out _).mono ?_; rintro e0 w1 ⟨rfl, hu, hs⟩; have HUC := Aside0.mk (HU.out.trans hu); have HFC := Aside0.mk hs; have HBC := Aside0.mk (HB.out.sh ((rot_sh f k1 k2).wide k0 k3) hb); clear hu hs; have K1 := Aside0.mk (IH.out a st mid (rot st m e f) _ (by omega) HFC.out (HX.out.upd HUC.out HGB.out HGR.out) c1a c1b (by omega) HBC.out HL.out)) | (go_at_call 36; refine K1.out.mono ?_; rintro e0 w2 ⟨rfl, hu, f1, hs, s1, x1⟩; have HU1 := Aside0.mk (HUC.out.trans hu); have HF1 := Aside0.mk hs; have S1 := Aside0.mk s1; have X1 := Aside0.mk x1; have HB1 := Aside0.mk (HBC.out.sh x1 (by omega)); clear hu hs s1 x1 K1; have R2 := Aside0.mk (cut_right HT.out k0 k1 k2 k3 k4 X1.out); have K2 := Aside0.mk (IH.out mid e b _ _ (by omega) HF1.out (HX.out.upd HU1.out HGB.out HGR.out) c2a c2b hb HB1.out R2.out)) | (go_at_call 36; refine K2.out.mono ?_; rintro e0 w3 ⟨rfl, hu, f2, hs, s2, x2⟩; have HU2 := Aside0.mk (HU1.out.trans hu); have HF2 := Aside0.mk hs; have S2 := Aside0.mk s2; have X2 := Aside0.mk x2; clear hu hs s2 x2))
              all_goals go_end0
              all_goals exact ⟨rfl, HU2.out, _, HF2.out, cut_join k0 k1 k2 k3 k4 KX.out S1.out X1.out S2.out X2.out⟩
              )
          · have z56 : decide ((mid : Int) < (e : Int)) = false ∨ decide ((e : Int) < (b : Int)) = false := by
              by_cases x : mid < e
              · exact .inr (decide_eq_false (by omega))
              · exact .inl (decide_eq_false (by omega))
            rcases z56 with z56 | z56 <;> (
              go_wp2_with (first | (go_at_call 38; refine (KR.out _).mono ?_; rintro e0 w1 ⟨rfl, hu, hs⟩; have HUC := Aside0.mk (HU.out.trans hu); have HFC := Aside0.mk hs; have HBC := Aside0.mk (HB.out.sh ((rot_sh f k1 k2).wide k0 k3) hb); clear hu hs; have K1 := Aside0.mk (IH.out a st mid (rot st m e f) _ (by omega) HFC.out (HX.out.upd HUC.out HGB.out HGR.out) c1a c1b (by omega) HBC.out HL.out)) | (go_at_call 36; refine K1.out.mono ?_; rintro e0 w2 ⟨rfl, hu, f1, hs, s1, x1⟩; have HU1 := Aside0.mk (HUC.out.trans hu); have HF1 := Aside0.mk hs; have S1 := Aside0.mk s1; have X1 := Aside0.mk x1; have HB1 := Aside0.mk (HBC.out.sh x1 (by omega)); clear hu hs s1 x1 K1; have R2 := Aside0.mk ((cut_right HT.out k0 k1 k2 k3 k4 X1.out).srt_left (by omega) (by omega)); have HU2 := HU1; have HF2 := HF1; have X2 := Aside0.mk (Sh.refl mid b f1)))
              all_goals go_end0
              all_goals exact ⟨rfl, HU2.out, _, HF2.out, cut_join k0 k1 k2 k3 k4 KX.out S1.out X1.out R2.out X2.out⟩
              )
        · have S1 := Aside0.mk (HL.out.srt_left (by omega) (by omega))
          have z34 : decide ((a : Int) < (st : Int)) = false ∨ decide ((st : Int) < (mid : Int)) = false := by
            by_cases x : a < st
            · exact .inr (decide_eq_false (by omega))
            · exact .inl (decide_eq_false (by omega))
          by_cases c2 : mid < e ∧ e < b
          · obtain ⟨c2a, c2b⟩ := c2
            have z5 : (mid : Int) < (e : Int) := by omega
            have z6 : (e : Int) < (b : Int) := by omega
            rcases z34 with z34 | z34 <;> (
              go_wp2_with (first | (go_at_call 38; refine (KR.out _).mono ?_; rintro e0 w1 ⟨rfl, hu, hs⟩; have HUC := Aside0.mk (HU.out.trans hu); have HFC := Aside0.mk hs; have HBC := Aside0.mk (HB.out.sh ((rot_sh f k1 k2).wide k0 k3) hb); clear hu hs; have HU1 := HUC; have HF1 := HFC; have X1 := Aside0.mk (Sh.refl a mid (rot st m e f)); have HB1 := HBC; have R2 := Aside0.mk (cut_right HT.out k0 k1 k2 k3 k4 X1.out); have K2 := Aside0.mk (IH.out mid e b _ _ (by omega) HF1.out (HX.out.upd HU1.out HGB.out HGR.out) c2a c2b hb HB1.out R2.out)) | (go_at_call 36; refine K2.out.mono ?_; rintro e0 w3 ⟨rfl, hu, f2, hs, s2, x2⟩; have HU2 := Aside0.mk (HU1.out.trans hu); have HF2 := Aside0.mk hs; have S2 := Aside0.mk s2; have X2 := Aside0.mk x2; clear hu hs s2 x2))
              all_goals go_end0
              all_goals exact ⟨rfl, HU2.out, _, HF2.out, cut_join k0 k1 k2 k3 k4 KX.out S1.out X1.out S2.out X2.out⟩
              )
          · have z56 : decide ((mid : Int) < (e : Int)) = false ∨ decide ((e : Int) < (b : Int)) = false := by
              by_cases x : mid < e
              · exact .inr (decide_eq_false (by omega))
              · exact .inl (decide_eq_false (by omega))
            rcases z34 with z34 | z34 <;> rcases z56 with z56 | z56 <;> (
              go_wp2_with (first | (go_at_call 38; refine (KR.out _).mono ?_; rintro e0 w1 ⟨rfl, hu, hs⟩; have HUC := Aside0.mk (HU.out.trans hu); have HFC := Aside0.mk hs; have HBC := Aside0.mk (HB.out.sh ((rot_sh f k1 k2).wide k0 k3) hb); clear hu hs; have HU1 := HUC; have HF1 := HFC; have X1 := Aside0.mk (Sh.refl a mid (rot st m e f)); have HB1 := HBC; have R2 := Aside0.mk ((cut_right HT.out k0 k1 k2 k3 k4 X1.out).srt_left (by omega) (by omega)); have HU2 := HU1; have HF2 := HF1; have X2 := Aside0.mk (Sh.refl mid b (rot st m e f))))
              all_goals go_end0
              all_goals exact ⟨rfl, HU2.out, _, HF2.out, cut_join k0 k1 k2 k3 k4 KX.out S1.out X1.out R2.out X2.out⟩
              )
      · have hid := rot_id f k1 k2 c0
        have HFC := Aside0.mk (show RowAt wr g n (rot st m e f) by rw [hid]; exact HS.out)
        have HBC := Aside0.mk (HB.out.sh ((rot_sh f k1 k2).wide k0 k3) hb)
        have HUC := HU
        clear hid
        have z12 : decide ((st : Int) < (m : Int)) = false ∨ decide ((m : Int) < (e : Int)) = false := by
          by_cases x : st < m
          · exact .inr (decide_eq_false (by omega))
          · exact .inl (decide_eq_false (by omega))
        by_cases c1 : a < st ∧ st < mid
        · obtain ⟨c1a, c1b⟩ := c1
          have z3 : (a : Int) < (st : Int) := by omega
          have z4 : (st : Int) < (mid : Int) := by omega
          by_cases c2 : mid < e ∧ e < b
          · obtain ⟨c2a, c2b⟩ := c2
            have z5 : (mid : Int) < (e : Int) := by omega
            have z6 : (e : Int) < (b : Int) := by omega
            have K1 := Aside0.mk (IH.out a st mid (rot st m e f) _ (by omega) HFC.out (HX.out.upd HUC.out HGB.out HGR.out) c1a c1b (by omega) HBC.out HL.out)
            rcases z12 with z12 | z12 <;> (
              go_wp2_with (first | (go_at_call 36; refine K1.out.mono ?_; rintro e0 w2 ⟨rfl, hu, f1, hs, s1, x1⟩; have HU1 := Aside0.mk (HUC.out.trans hu); have HF1 := Aside0.mk hs; have S1 := Aside0.mk s1; have X1 := Aside0.mk x1; have HB1 := Aside0.mk (HBC.out.sh x1 (by omega)); clear hu hs s1 x1 K1; have R2 := Aside0.mk (cut_right HT.out k0 k1 k2 k3 k4 X1.out); have K2 := Aside0.mk (IH.out mid e b _ _ (by omega) HF1.out (HX.out.upd HU1.out HGB.out HGR.out) c2a c2b hb HB1.out R2.out)) | (go_at_call 36; refine K2.out.mono ?_; rintro e0 w3 ⟨rfl, hu, f2, hs, s2, x2⟩; have HU2 := Aside0.mk (HU1.out.trans hu); have HF2 := Aside0.mk hs; have S2 := Aside0.mk s2; have X2 := Aside0.mk x2; clear hu hs s2 x2))
              all_goals go_end0
              all_goals exact ⟨rfl, HU2.out, _, HF2.out, cut_join k0 k1 k2 k3 k4 KX.out S1.out X1.out S2.out X2.out⟩
              )
          · have z56 : decide ((mid : Int) < (e : Int)) = false ∨ decide ((e : Int) < (b : Int)) = false := by
              by_cases x : mid < e
              · exact .inr (decide_eq_false (by omega))
              · exact .inl (decide_eq_false (by omega))
            have K1 := Aside0.mk (IH.out a st mid (rot st m e f) _ (by omega) HFC.out (HX.out.upd HUC.out HGB.out HGR.out) c1a c1b (by omega) HBC.out HL.out)
            rcases z12 with z12 | z12 <;> rcases z56 with z56 | z56 <;> (
              go_wp2_with (first | (go_at_call 36; refine K1.out.mono ?_; rintro e0 w2 ⟨rfl, hu, f1, hs, s1, x1⟩; have HU1 := Aside0.mk (HUC.out.trans hu); have HF1 := Aside0.mk hs; have S1 := Aside0.mk s1; have X1 := Aside0.mk x1; have HB1 := Aside0.mk (HBC.out.sh x1 (by omega)); clear hu hs s1 x1 K1; have R2 := Aside0.mk ((cut_right HT.out k0 k1 k2 k3 k4 X1.out).srt_left (by omega) (by omega)); have HU2 := HU1; have HF2 := HF1; have X2 := Aside0.mk (Sh.refl mid b f1)))
              all_goals go_end0
              all_goals exact ⟨rfl, HU2.out, _, HF2.out, cut_join k0 k1 k2 k3 k4 KX.out S1.out X1.out R2.out X2.out⟩
              )
        · have S1 := Aside0.mk (HL.out.srt_left (by omega) (by omega))
          have z34 : decide ((a : Int) < (st : Int)) = false ∨ decide ((st : Int) < (mid : Int)) = false := by
            by_cases x : a < st
            · exact .inr (decide_eq_false (by omega))
            · exact .inl (decide_eq_false (by omega))
          by_cases c2 : mid < e ∧ e < b
          · obtain ⟨c2a, c2b⟩ := c2
            have z5 : (mid : Int) < (e : Int) := by omega
            have z6 : (e : Int) < (b : Int) := by omega
            have HU1 := HUC
            have HF1 := HFC
            have X1 := Aside0.mk (Sh.refl a mid (rot st m e f))
            have HB1 := HBC
            have R2 := Aside0.mk (cut_right HT.out k0 k1 k2 k3 k4 X1.out)
            have K2 := Aside0.mk (IH.out mid e b _ _ (by omega) HF1.out (HX.out.upd HU1.out HGB.out HGR.out) c2a c2b hb HB1.out R2.out)
            rcases z12 with z12 | z12 <;> rcases z34 with z34 | z34 <;> (
              go_wp2_with (first | (go_at_call 36; refine K2.out.mono ?_; rintro e0 w3 ⟨rfl, hu, f2, hs, s2, x2⟩; have HU2 := Aside0.mk (HU1.out.trans hu); have HF2 := Aside0.mk hs; have S2 := Aside0.mk s2; have X2 := Aside0.mk x2; clear hu hs s2 x2))
              all_goals go_end0
              all_goals exact ⟨rfl, HU2.out, _, HF2.out, cut_join k0 k1 k2 k3 k4 KX.out S1.out X1.out S2.out X2.out⟩
              )
          · have z56 : decide ((mid : Int) < (e : Int)) = false ∨ decide ((e : Int) < (b : Int)) = false := by
              by_cases x : mid < e
              · exact .inr (decide_eq_false (by omega))
              · exact .inl (decide_eq_false (by omega))
            have HU1 := HUC
            have HF1 := HFC
            have X1 := Aside0.mk (Sh.refl a mid (rot st m e f))
            have HB1 := HBC
            have R2 := Aside0.mk ((cut_right HT.out k0 k1 k2 k3 k4 X1.out).srt_left (by omega) (by omega))
            have HU2 := HU1
            have HF2 := HF1
            have X2 := Aside0.mk (Sh.refl mid b (rot st m e f))
            rcases z12 with z12 | z12 <;> rcases z34 with z34 | z34 <;> rcases z56 with z56 | z56 <;> (
              go_wp2_with fail
              all_goals go_end0
              all_goals exact ⟨rfl, HU2.out, _, HF2.out, cut_join k0 k1 k2 k3 k4 KX.out S1.out X1.out R2.out X2.out⟩
              )
/-- The merge in place. -/
theorem symMerge_calls {g n cap gb gr capr : Nat} {r : Nat → Int} (hgb : gb ≠ g) (hgr : gr ≠ g) (hn : n < 4611686018427387904) : ∀ (d a m b : Nat) (f : Nat → Nat) (w : World), b - a ≤ d → RowAt w g n f → RestsAt w gb gr n capr r → a < m → m < b → b ≤ n → Bd n f → Two r f a m b →
    Calls Try.prog 36 #[.slice (some ⟨g, 0, none⟩) n cap, .int .i64 a, .int .i64 m, .int .i64 b, .func (.func 18) #[] #[.pointer (some ⟨gb, 0, none⟩)]] w fun e w' => e = .returned (.tuple #[]) ∧ Left g n w w' a b r f := by
  intro d
  induction d with
  | zero => intro a m b f w hd hR hX ha hm; omega
  | succ d ih =>
    intro a m b f w hd hR hX ha hm hb hB hT
    by_cases h1 : m = a + 1
    · exact symMerge_one a m b f w hR hX hgb hgr h1 hm hb hB hT hn
    · by_cases h2 : b = m + 1
      · exact symMerge_last a m b f w hR hX hgb hgr (by omega) h2 hb hB hT hn
      · by_cases h3 : (a + b) / 2 < m
        · exact symMerge_stepA hgb hgr hn ih a m b f w hd hR hX (by omega) (by omega) hb hB hT h3
        · exact symMerge_stepB hgb hgr hn ih a m b f w hd hR hX (by omega) (by omega) hb hB hT h3
end Go.Proofs.Ytimdoddaaelfjaa.Ext
