/- WireBack, walked. -/
import Derived.Test.YtbiidbiammppiaaBack1
import Derived.Test.YtbiidbiammppiaaLaws1
namespace Go.Proofs.Ytbiidbiammppiaa.Ext
open Go.RowKit Go.Proofs.YtbiidbiammppiaaW.PrintWords Go.Proofs.YtbiidbiammppiaaW.PrintLast Go.Proofs.YtbiidbiammppiaaW.PrintMore Go.Proofs.YtbiidbiammppiaaW.Hand
set_option linter.unusedVariables false
abbrev Vl := Int × Int × ByteArray
def vput (p : Vl) : List Int :=
  if p.1.tmod 4 = 0 then beN 1 (IntKind.u8.wrap p.2.1) else if p.1.tmod 4 = 1 then beN 8 p.2.1 else if p.1.tmod 4 = 2 then beN 8 (IntKind.i64.wrap p.2.1 % top64) else beN 4 p.2.2.size ++ bytesOf p.2.2
def vputs (L : List Vl) : List Int := L.flatMap vput
def Okay (p : Vl) : Prop := 0 ≤ p.1 ∧ 0 ≤ p.2.1 ∧ p.2.1 < 18446744073709551616 ∧ p.2.2.size ≤ 1000
theorem vput_step (p : Vl) (h : Okay p) (ok : Bool) (b : List Int) : tstep (ok, ⟨vput p ++ b, false⟩) p = (ok, ⟨b, false⟩) := by
  obtain ⟨h1, h2, h3, h4⟩ := h
  have w8 : 0 ≤ IntKind.u8.wrap p.2.1 ∧ IntKind.u8.wrap p.2.1 < 256 := by rw [IntKind.wrap_u8]; omega
  have w64 : -9223372036854775808 ≤ IntKind.i64.wrap p.2.1 ∧ IntKind.i64.wrap p.2.1 ≤ 9223372036854775807 := by rw [IntKind.wrap_i64]; omega
  unfold tstep vput
  by_cases c0 : p.1.tmod 4 = 0
  · simp only [if_pos c0, byte_app _ b w8.1 w8.2, beq_self_eq_true, Bool.true_and]
  · by_cases c1 : p.1.tmod 4 = 1
    · simp only [if_neg c0, if_pos c1, uint_app _ b h2 h3, beq_self_eq_true, Bool.true_and]
    · by_cases c2 : p.1.tmod 4 = 2
      · simp only [if_neg c0, if_neg c1, if_pos c2, int_app _ b w64.1 w64.2, beq_self_eq_true, Bool.true_and]
      · have ht := text_app (bytesOf p.2.2) b (by rw [bytesOf_length]; omega)
        rw [bytesOf_length] at ht
        simp only [if_neg c0, if_neg c1, if_neg c2, List.append_assoc, ht, str_bytes, beq_self_eq_true, Bool.true_and]
theorem vput_bad (p : Vl) (ok : Bool) (xs : List Int) : (tstep (ok, ⟨xs, true⟩) p).2 = ⟨xs, true⟩ := by
  unfold tstep
  simp only [bad_byte, bad_uint, bad_int, bad_text]
  split
  · rfl
  · split
    · rfl
    · split <;> rfl
theorem vput_short (p : Vl) (h : Okay p) (ok : Bool) (xs ys : List Int) (he : xs ++ ys = vput p) (hy : ys ≠ []) : (tstep (ok, ⟨xs, false⟩) p).2.bad = true := by
  obtain ⟨h1, h2, h3, h4⟩ := h
  have hl : xs.length + ys.length = (vput p).length := by rw [← he, List.length_append]
  have hy1 : 0 < ys.length := List.length_pos_iff.2 hy
  unfold tstep
  unfold vput at hl he
  by_cases c0 : p.1.tmod 4 = 0
  · simp only [if_pos c0, beN_length] at hl
    simp only [if_pos c0, short_byte xs (by omega)]
  · by_cases c1 : p.1.tmod 4 = 1
    · simp only [if_neg c0, if_pos c1, beN_length] at hl
      simp only [if_neg c0, if_pos c1, short_uint xs (by omega)]
    · by_cases c2 : p.1.tmod 4 = 2
      · simp only [if_neg c0, if_neg c1, if_pos c2, beN_length] at hl
        simp only [if_neg c0, if_neg c1, if_pos c2, short_int xs (by omega)]
      · simp only [if_neg c0, if_neg c1, if_neg c2, List.length_append, beN_length, bytesOf_length] at hl he ⊢
        by_cases h4' : xs.length < 4
        · rw [short_text xs h4']
        · have e1 : xs = beN 4 p.2.2.size ++ xs.drop 4 := by
            have : xs.take 4 = beN 4 p.2.2.size := by
              have := congrArg (List.take 4) he
              rw [List.take_append_of_le_length (by omega), List.take_append_of_le_length (by rw [beN_length]; exact Nat.le_refl _)] at this
              exact this.trans (List.take_of_length_le (by rw [beN_length]; exact Nat.le_refl _))
            rw [← this, List.take_append_drop]
          rw [e1, short_text2 p.2.2.size (xs.drop 4) (by omega) (by rw [List.length_drop]; omega)]
theorem fold_yes (L : List Vl) (h : ∀ p ∈ L, Okay p) : ∀ (ok : Bool) (b : List Int), L.foldl tstep (ok, ⟨vputs L ++ b, false⟩) = (ok, ⟨b, false⟩) := by
  induction L with
  | nil => intro ok b; rfl
  | cons p L ih =>
    intro ok b
    have e : vputs (p :: L) ++ b = vput p ++ (vputs L ++ b) := by simp [vputs]
    rw [List.foldl_cons, e, vput_step p (h p (by simp))]
    exact ih (fun q hq => h q (by simp [hq])) ok b
theorem fold_bad (L : List Vl) : ∀ (ok : Bool) (xs : List Int), (L.foldl tstep (ok, ⟨xs, true⟩)).2.bad = true := by
  induction L with
  | nil => intro ok b; rfl
  | cons p L ih =>
    intro ok xs
    rw [List.foldl_cons]
    have := vput_bad p ok xs
    generalize tstep (ok, ⟨xs, true⟩) p = t at *
    obtain ⟨o2, r2⟩ := t
    simp only at this
    subst this
    exact ih o2 xs
theorem fold_no (L : List Vl) (h : ∀ p ∈ L, Okay p) : ∀ (ok : Bool) (xs ys : List Int), xs ++ ys = vputs L → ys ≠ [] → (L.foldl tstep (ok, ⟨xs, false⟩)).2.bad = true := by
  induction L with
  | nil =>
    intro ok xs ys he hy
    simp [vputs] at he
    exact absurd he.2 hy
  | cons p L ih =>
    intro ok xs ys he hy
    have e : vputs (p :: L) = vput p ++ vputs L := by simp [vputs]
    rw [e] at he
    rw [List.foldl_cons]
    rcases Nat.lt_or_ge xs.length (vput p).length with hlt | hge
    · have hb := vput_short p (h p (by simp)) ok xs ((vput p).drop xs.length) (by
        have e1 := congrArg (List.take xs.length) he
        rw [List.take_append_of_le_length (Nat.le_refl _), List.take_of_length_le (Nat.le_refl _), List.take_append_of_le_length (by omega)] at e1
        conv => lhs; lhs; rw [e1]
        exact List.take_append_drop _ _) (by
        intro hc
        have := congrArg List.length hc
        rw [List.length_drop] at this
        simp at this
        omega)
      generalize tstep (ok, ⟨xs, false⟩) p = t at *
      obtain ⟨o2, x2, b2⟩ := t
      simp only at hb
      subst hb
      exact fold_bad L o2 x2
    · have e1 : xs = vput p ++ xs.drop (vput p).length := by
        have e2 := congrArg (List.take (vput p).length) he
        rw [List.take_append_of_le_length hge, List.take_append_of_le_length (Nat.le_refl _), List.take_of_length_le (Nat.le_refl _)] at e2
        conv => lhs; rw [← List.take_append_drop (vput p).length xs, e2]
      rw [e1, vput_step p (h p (by simp))]
      refine ih (fun q hq => h q (by simp [hq])) ok _ ys ?_ hy
      rw [e1, List.append_assoc] at he
      exact List.append_cancel_left he
theorem vput_len (p : Vl) (h : Okay p) : (vput p).length ≤ 1004 := by
  obtain ⟨h1, h2, h3, h4⟩ := h
  unfold vput
  split
  · rw [beN_length]; omega
  · split
    · rw [beN_length]; omega
    · split
      · rw [beN_length]; omega
      · rw [List.length_append, beN_length, bytesOf_length]; omega
theorem vput_bytes (p : Vl) : ∀ x ∈ vput p, IsByte x := by
  unfold vput
  split
  · exact beN_bytes _ _
  · split
    · exact beN_bytes _ _
    · split
      · exact beN_bytes _ _
      · intro x hx
        rcases List.mem_append.1 hx with h | h
        · exact beN_bytes _ _ x h
        · exact bytesOf_bytes _ x h
theorem vputs_snoc (L : List Vl) (k : Nat) (p : Vl) (h : L[k]? = some p) : vputs (L.take (k + 1)) = vputs (L.take k) ++ vput p := by
  obtain ⟨hk, e⟩ := List.getElem?_eq_some_iff.1 h
  unfold vputs
  rw [List.take_succ_eq_append_getElem hk, List.flatMap_append, e]
  simp
theorem vputs_bytes (L : List Vl) : ∀ x ∈ vputs L, IsByte x := by
  intro x hx
  obtain ⟨p, _, h⟩ := List.mem_flatMap.1 hx
  exact vput_bytes p x h
set_option maxRecDepth 100000 in
set_option maxHeartbeats 6400000 in
theorem WireBack.go (a : Option Addr) (cp : Nat) (L : List Vl) (w : World) (hL : ValsAt w a L) :
    Calls Try.prog 6 #[.slice a L.length cp] w fun e w' => e = .returned (.bool true) ∧ Below w.heap.size w w' := by
  have HL := Aside0.mk hL
  have kc := fun (w : World) (s : ByteArray) => Lib.run_convert_string_bytes (P := Try.prog) w 9 22 5 s Try.underlying9 Try.underlying22 Try.underlying5
  clear hL
  by_cases h1 : (100 : Int) < L.length
  · go_enter Try.func6, Try.ntmps6
    go_wp2_with fail
    go_ret
    exact ⟨rfl, Below.refl _ _⟩
  go_enter Try.func6, Try.ntmps6
  go_wp2_with fail
  go_loopw [3, 4] (fun o i wr => ∃ (k : Nat) (A : Option Addr) (c : Nat), k ≤ L.length ∧ i = .int .i64 k ∧ o = .slice A (vputs (L.take k)).length c ∧ (vputs (L.take k)).length ≤ 1004 * k ∧ (vputs (L.take k)).length ≤ c ∧ Aside0 (∀ p ∈ L.take k, Okay p) ∧ Aside0 (Kd.C (Kd.int .u8) wr A (vputs (L.take k)).length (vputs (L.take k))) ∧ Aside0 (Below w.heap.size w wr)) (fun _ i _ => L.length - (intOf i).toNat)
  case atStart => exact ⟨0, none, 0, by omega, rfl, rfl, by simp [vputs], by simp [vputs], ⟨fun p hp => by simp at hp⟩, ⟨Kd.C_nil _ _⟩, ⟨Below.refl _ _⟩⟩
  case round =>
    obtain ⟨k, A, c, hk, rfl, rfl, hlen, hcap, HOK, HC, HB⟩ := hrel
    by_cases hlt : k < L.length
    · obtain ⟨b, o, e1, hc⟩ := HL.out.2 (by omega)
      cases e1
      obtain ⟨p, hp⟩ : ∃ p, L[k]? = some p := ⟨_, List.getElem?_eq_getElem hlt⟩
      obtain ⟨ha, hn, hs⟩ := hc k p hp
      obtain ⟨m1, m2, m3, m4, m5⟩ := HL.out.1 p (List.mem_of_getElem? hp)
      have na := (HB.out.cell (World.block_lt_of_cell? w _ ha)).trans ha
      have nn := (HB.out.cell (World.block_lt_of_cell? w _ hn)).trans hn
      have ns := (HB.out.cell (World.block_lt_of_cell? w _ hs)).trans hs
      have HSN := Aside0.mk (vputs_snoc L k p hp)
      by_cases hbig : (1000 : Int) < p.2.2.size
      · clear ha hn hs hc hp m1 m2 m3 m4 m5
        go_wp2_with fail
        go_ret
        exact ⟨rfl, HB.out⟩
      · have HO2 : Aside0 (∀ q ∈ L.take (k + 1), Okay q) := ⟨by
          intro q hq
          obtain ⟨hk2, e⟩ := List.getElem?_eq_some_iff.1 hp
          rw [List.take_succ_eq_append_getElem hk2, List.mem_append, e] at hq
          rcases hq with hq | hq
          · exact HOK.out q hq
          · rw [List.mem_singleton] at hq
            subst hq
            exact ⟨m1, m3, m4, by omega⟩⟩
        have hvl := vput_len p ⟨m1, m3, m4, by omega⟩
        obtain ⟨p1, p2, p3⟩ := p
        simp only at na nn ns m1 m2 m3 m4 m5 hbig
        have hx : p1.tmod 4 = 0 ∨ p1.tmod 4 = 1 ∨ p1.tmod 4 = 2 ∨ p1.tmod 4 = 3 := by rw [Int.tmod_eq_emod_of_nonneg m1]; omega
        clear ha hn hs hc hp
        obtain ⟨V, hV⟩ : ∃ V, vputs (L.take k) = V := ⟨_, rfl⟩
        rw [hV] at HSN HC hlen hcap ⊢
        clear hV
        rcases hx with hx | hx | hx | hx
        · have hst : vput (p1, p2, p3) = beN 1 (IntKind.u8.wrap p2) := if_pos hx
          rw [hst] at HSN hvl
          clear hst
          have hw0 : 0 ≤ IntKind.u8.wrap p2 ∧ IntKind.u8.wrap p2 < 256 := by rw [IntKind.wrap_u8]; omega
          obtain ⟨q, hq⟩ : ∃ q, IntKind.u8.wrap p2 = q := ⟨_, rfl⟩
          rw [hq] at hw0 HSN hvl
          go_wp2_with fail
          refine (Byte_any A c V q _ HC.out (by omega) hw0.1 hw0.2).mono ?_
          rintro e w3 ⟨v0, rfl, hO, hb⟩
          obtain ⟨A3, c3, ev⟩ := Kd.R_slice hO
          subst ev
          have HC3 := Aside0.mk (Kd.R_reads' hO)
          have HB3 := Aside0.mk (below_step HB.out hb)
          clear hO hb
          go_wp2_with fail
          go_roundw
          case rel => exact ⟨k + 1, A3, c3, by omega, by go_num, by rw [HSN.out]; simp, by rw [HSN.out]; simp only [List.length_append] at hvl ⊢; omega, by rw [HSN.out]; exact HC3.out.2.1, HO2, by rw [HSN.out]; exact ⟨HC3.out.2.2⟩, HB3⟩
          case measure => simp [intOf]; omega
        · have hst : vput (p1, p2, p3) = beN 8 p2 := by unfold vput; rw [if_neg (by rw [hx]; decide), if_pos hx]
          rw [hst] at HSN hvl
          clear hst
          go_wp2_with fail
          refine (Uint_any A c V p2 _ HC.out (by omega) m3 m4).mono ?_
          rintro e w3 ⟨v0, rfl, hO, hb⟩
          obtain ⟨A3, c3, ev⟩ := Kd.R_slice hO
          subst ev
          have HC3 := Aside0.mk (Kd.R_reads' hO)
          have HB3 := Aside0.mk (below_step HB.out hb)
          clear hO hb
          go_wp2_with fail
          go_roundw
          case rel => exact ⟨k + 1, A3, c3, by omega, by go_num, by rw [HSN.out]; simp, by rw [HSN.out]; simp only [List.length_append] at hvl ⊢; omega, by rw [HSN.out]; exact HC3.out.2.1, HO2, by rw [HSN.out]; exact ⟨HC3.out.2.2⟩, HB3⟩
          case measure => simp [intOf]; omega
        · have hst : vput (p1, p2, p3) = beN 8 (IntKind.i64.wrap p2 % top64) := by unfold vput; rw [if_neg (by rw [hx]; decide), if_neg (by rw [hx]; decide), if_pos hx]
          rw [hst] at HSN hvl
          clear hst
          obtain ⟨q, hq⟩ : ∃ q, IntKind.i64.wrap p2 = q := ⟨_, rfl⟩
          rw [hq] at HSN hvl
          go_wp2_with fail
          refine (Int_any A c V q _ HC.out (by omega)).mono ?_
          rintro e w3 ⟨v0, rfl, hO, hb⟩
          obtain ⟨A3, c3, ev⟩ := Kd.R_slice hO
          subst ev
          have HC3 := Aside0.mk (Kd.R_reads' hO)
          have HB3 := Aside0.mk (below_step HB.out hb)
          clear hO hb
          go_wp2_with fail
          go_roundw
          case rel => exact ⟨k + 1, A3, c3, by omega, by go_num, by rw [HSN.out]; simp, by rw [HSN.out]; simp only [List.length_append] at hvl ⊢; omega, by rw [HSN.out]; exact HC3.out.2.1, HO2, by rw [HSN.out]; exact ⟨HC3.out.2.2⟩, HB3⟩
          case measure => simp [intOf]; omega
        · have hst : vput (p1, p2, p3) = beN 4 p3.size ++ bytesOf p3 := by unfold vput; rw [if_neg (by rw [hx]; decide), if_neg (by rw [hx]; decide), if_neg (by rw [hx]; decide)]
          rw [hst] at HSN hvl
          clear hst
          have kt := Aside0.mk (Text_any A c V (some ⟨wr.heap.size, 0, none⟩) (grownCap wr p3.size 0 5) (bytesOf p3) (Lib.bytesWorld wr 5 p3) (Kd.C_below HC.out (str_below _ _ _)) (C_str _ _ _ m5) (by rw [bytesOf_length]; omega))
          rw [bytesOf_length, List.append_assoc] at kt
          go_wp2_with fail
          refine kt.out.mono ?_
          rintro e w3 ⟨v0, rfl, hO, hb⟩
          obtain ⟨A3, c3, ev⟩ := Kd.R_slice hO
          subst ev
          have HC3 := Aside0.mk (Kd.R_reads' hO)
          have HB3 := Aside0.mk (below_step (below_step HB.out (str_below _ _ _)) hb)
          clear hO hb
          go_wp2_with fail
          go_roundw
          case rel => exact ⟨k + 1, A3, c3, by omega, by go_num, by rw [HSN.out]; simp, by rw [HSN.out]; simp only [List.length_append] at hvl ⊢; omega, by rw [HSN.out]; exact HC3.out.2.1, HO2, by rw [HSN.out]; exact ⟨HC3.out.2.2⟩, HB3⟩
          case measure => simp [intOf]; omega
    · obtain rfl : k = L.length := by omega
      rw [List.take_length] at HOK HC hlen hcap ⊢
      have hall := HOK.out
      obtain ⟨V, hV⟩ : ∃ V, vputs L = V := ⟨_, rfl⟩
      have hby : ∀ x ∈ V, IsByte x := by rw [← hV]; exact vputs_bytes L
      have hyes : tks ⟨V, false⟩ L = (true, ⟨[], false⟩) := by
        have := fold_yes L hall true []
        rw [List.append_nil, hV] at this
        exact this
      have hno : ∀ xs ys, xs ++ ys = V → ys ≠ [] → (tks ⟨xs, false⟩ L).2.bad = true := fun xs ys he hy => fold_no L hall true xs ys (by rw [hV]; exact he) hy
      rw [hV] at HC hlen hcap ⊢
      have HBy := Aside0.mk hby
      have HY := Aside0.mk hyes
      have HN := Aside0.mk hno
      clear hV hby hyes hno hall HOK
      go_wp2_with fail
      refine (New_calls A c V _ HC.out HBy.out (by omega)).mono ?_
      rintro e w1 ⟨g, rfl, hR, hb⟩
      have HR1 := Aside0.mk hR
      have HB1 := Aside0.mk (below_step HB.out hb)
      have HC1 := Aside0.mk (Kd.C_below HC.out hb)
      have hg0 := Aside0.mk (Nat.le_trans HB.out.size (by obtain ⟨_, _, _, _, _, _, h5⟩ := hR; exact h5.1))
      clear hR hb HC HB
      by_cases hn : 0 < V.length
      · obtain ⟨s1, t2⟩ := cut_to .i64 (A := A) (c := c) (xs := V) (b := V.length - 1) (by omega) hcap ((V.length : Int) - 1) (by omega)
        have hn2 : (0 : Int) < (V.length : Int) := by omega
        have hl1 : (V.take (V.length - 1)).length = V.length - 1 := by simp
        have HC2 := Aside0.mk (t2 w1 HC1.out)
        have hbad : (tks ⟨V.take (V.length - 1), false⟩ L).2.bad = true := HN.out _ (V.drop (V.length - 1)) (List.take_append_drop _ _) (fun hc => by have := congrArg List.length hc; rw [List.length_drop] at this; simp at this; omega)
        have HBD := Aside0.mk hbad
        obtain ⟨m, hm⟩ : ∃ m, V.length - 1 = m := ⟨_, rfl⟩
        have kn := Aside0.mk (New_calls A c (V.take m) w1 (by rw [← hm]; exact HC2.out) (fun x hx => HBy.out x (List.mem_of_mem_take hx)) (by rw [← hm, hl1]; omega))
        rw [← hm, hl1, hm] at kn
        rw [hm] at s1 HBD
        clear t2 hbad hl1 HC2
        go_wp2_with fail
        refine kn.out.mono ?_
        rintro e w2 ⟨g2, rfl, hR, hb⟩
        have HRc := Aside0.mk hR
        have hg2 := Aside0.mk (show w1.heap.size ≤ g2 by obtain ⟨_, _, _, _, _, _, h5⟩ := hR; exact h5.1)
        have HR2 := Aside0.mk (RdrAt.below HR1.out hb)
        have HB2 := Aside0.mk (below_step HB1.out hb)
        have hgl := Aside0.mk (show g < w1.heap.size by obtain ⟨_, _, h1, _⟩ := HR1.out; exact h1.lt)
        clear hR hb kn HR1
        go_wp2_with fail
        refine (takes_calls w g2 _ ⟨V.take m, false⟩ a cp L _ HRc.out (by show (V.take m).length ≤ _; rw [List.length_take]; omega) HL.out (by omega) HB2.out (Nat.le_trans HB1.out.size hg2.out)).mono ?_
        rintro e w3 ⟨rfl, hR, hB, hK⟩
        have HRc3 := Aside0.mk hR
        have HB3 := Aside0.mk hB
        have HR3 := Aside0.mk (RdrAt.keep HR2.out (fun k hk hl => hK.2 k hl (by have := hg2.out; omega) (by simp)))
        have hx3 := tks_len ⟨V.take m, false⟩ L
        clear hR hB hK HRc HR2 HB2
        generalize tks ⟨V.take m, false⟩ L = t at *
        obtain ⟨o2, x2, b2⟩ := t
        have hb2 : b2 = true := HBD.out
        subst hb2
        simp only [] at hx3
        have hx4 : x2.length ≤ 140737488355000 := by rw [List.length_take] at hx3; omega
        clear hx3
        go_wp2_with fail
        refine (Done_calls g2 _ ⟨x2, true⟩ _ HRc3.out (by show x2.length ≤ _; omega)).mono ?_
        rintro e w5 ⟨rfl, rfl⟩
        rw [bad_done]
        clear HRc3 HBD hx4
        go_wp2_with fail
        refine (takes_calls w g _ ⟨V, false⟩ a cp L _ HR3.out (by show V.length ≤ _; omega) HL.out (by omega) HB3.out hg0.out).mono ?_
        rintro e w6 ⟨rfl, hR, hB, hK⟩
        rw [HY.out] at hR ⊢
        have HR6 := Aside0.mk hR
        have HB6 := Aside0.mk hB
        clear hR hB hK
        go_wp2_with fail
        refine (Done_calls g _ ⟨[], false⟩ _ HR6.out (by decide)).mono ?_
        rintro e w7 ⟨rfl, rfl⟩
        rw [show (⟨[], false⟩ : Rs).done = 0 from rfl]
        go_wp2_with fail
        refine (goes_true _).mono ?_
        rintro e w8 ⟨rfl, hb⟩
        have HB8 := Aside0.mk (below_step HB6.out hb)
        clear hb
        go_wp2_with fail
        go_ret
        exact ⟨rfl, HB8.out⟩
      · have hn2 : ¬ (0 : Int) < (V.length : Int) := by omega
        clear HC1
        go_wp2_with fail
        refine (takes_calls w g _ ⟨V, false⟩ a cp L _ HR1.out (by show V.length ≤ _; omega) HL.out (by omega) HB1.out hg0.out).mono ?_
        rintro e w6 ⟨rfl, hR, hB, hK⟩
        rw [HY.out] at hR ⊢
        have HR6 := Aside0.mk hR
        have HB6 := Aside0.mk hB
        clear hR hB hK
        go_wp2_with fail
        refine (Done_calls g _ ⟨[], false⟩ _ HR6.out (by decide)).mono ?_
        rintro e w7 ⟨rfl, rfl⟩
        rw [show (⟨[], false⟩ : Rs).done = 0 from rfl]
        go_wp2_with fail
        refine (goes_true _).mono ?_
        rintro e w8 ⟨rfl, hb⟩
        have HB8 := Aside0.mk (below_step HB6.out hb)
        clear hb
        go_wp2_with fail
        go_ret
        exact ⟨rfl, HB8.out⟩
theorem WireBack.walk {H : Type} {enc : TypeId × Value → H} (a0 : Option Addr) (len0 cap0 : Nat) (w : World) {d0 : DataW H} {p0 : List MemPlace}
    (k0 : DataW.Trod enc Try.prog w 0 (fun _ => true) true 37 (.slice a0 len0 cap0) d0 p0) :
    Calls Try.prog 6 #[.slice a0 len0 cap0] w fun e w' => e = .returned (.bool true) ∧ Below w.heap.size w w' := by
  obtain ⟨L, rfl, hL⟩ := vals_open k0
  exact WireBack.go a0 cap0 L w hL
end Go.Proofs.Ytbiidbiammppiaa.Ext
