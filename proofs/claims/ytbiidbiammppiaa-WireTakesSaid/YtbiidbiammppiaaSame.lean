/- quitrentlaw01.same, walked. -/
import Derived.Test.YtbiidbiammppiaaState
import Derived.Test.YtbiidbiammppiaaSpoilt
import Derived.Deep.RegionWith
namespace Go.Proofs.Ytbiidbiammppiaa.Ext
open Go.RowKit Go.Proofs.YtbiidbiammppiaaW.PrintWords Go.Proofs.YtbiidbiammppiaaW.PrintLast Go.Proofs.YtbiidbiammppiaaW.PrintMore Go.Proofs.YtbiidbiammppiaaW.Hand
set_option linter.unusedVariables false
theorem st_take (l : List Int) (pos : Nat) (bad : Bool) (n : Nat) : (⟨l.drop pos, bad⟩ : Rs).take n = if bad = true ∨ l.length - pos < n then (none, ⟨l.drop pos, true⟩) else (some ((l.take (pos + n)).drop pos), ⟨l.drop (pos + n), false⟩) := by
  unfold Rs.take
  simp only [List.length_drop]
  split
  · rfl
  · rw [List.drop_take, show pos + n - pos = n by omega, List.drop_drop]
theorem st_uint (l : List Int) (pos : Nat) (bad : Bool) : (⟨l.drop pos, bad⟩ : Rs).uint = (beVal (stTake l pos bad 8).1, ⟨l.drop (stTake l pos bad 8).2.1, (stTake l pos bad 8).2.2⟩) := by
  unfold Rs.uint stTake
  rw [st_take]
  by_cases hc : bad = true ∨ l.length - pos < 8
  · simp only [if_pos hc]; rfl
  · simp only [if_neg hc]
theorem st_int (l : List Int) (pos : Nat) (bad : Bool) : (⟨l.drop pos, bad⟩ : Rs).int = (wrap64 (beVal (stTake l pos bad 8).1), ⟨l.drop (stTake l pos bad 8).2.1, (stTake l pos bad 8).2.2⟩) := by
  unfold Rs.int stTake
  rw [st_take]
  by_cases hc : bad = true ∨ l.length - pos < 8
  · simp only [if_pos hc]
    rw [show wrap64 (beVal []) = 0 by kernel_rfl]
  · simp only [if_neg hc]
theorem one_val (l : List Int) (h : l.length = 1) : rd l 0 = beVal l := by
  match l, h with
  | [x], _ => simp [rd, beVal]
theorem st_byte (l : List Int) (pos : Nat) (bad : Bool) : (⟨l.drop pos, bad⟩ : Rs).byte = (beVal (stTake l pos bad 1).1, ⟨l.drop (stTake l pos bad 1).2.1, (stTake l pos bad 1).2.2⟩) := by
  unfold Rs.byte stTake
  rw [st_take]
  by_cases hc : bad = true ∨ l.length - pos < 1
  · simp only [if_pos hc]; rfl
  · simp only [if_neg hc]
    rw [one_val]
    simp; omega
theorem st_len4 (l : List Int) (pos : Nat) (bad : Bool) : (⟨l.drop pos, bad⟩ : Rs).len4 = (beVal (stTake l pos bad 4).1, ⟨l.drop (stTake l pos bad 4).2.1, (stTake l pos bad 4).2.2⟩) := by
  unfold Rs.len4 stTake
  rw [st_take]
  by_cases hc : bad = true ∨ l.length - pos < 4
  · simp only [if_pos hc]; rfl
  · simp only [if_neg hc]
theorem st_text (l : List Int) (pos : Nat) (bad : Bool) : (⟨l.drop pos, bad⟩ : Rs).text = ((stText l pos bad).1, ⟨l.drop (stText l pos bad).2.1, (stText l pos bad).2.2⟩) := by
  unfold Rs.text stText
  rw [st_len4]
  generalize stTake l pos bad 4 = t
  obtain ⟨xs, p2, b2⟩ := t
  simp only []
  unfold stTake
  rw [st_take]
  by_cases hc : b2 = true ∨ l.length - p2 < (beVal xs).toNat
  · simp only [if_pos hc]
  · simp only [if_neg hc]
theorem st_count (l : List Int) (pos : Nat) (bad : Bool) (most : Int) : (⟨l.drop pos, bad⟩ : Rs).count most = ((stCount l pos bad most).1, ⟨l.drop (stCount l pos bad most).2.1, (stCount l pos bad most).2.2⟩) := by
  unfold Rs.count stCount
  rw [st_uint]
  simp only []
  by_cases hc : most < 0 ∨ most < beVal (stTake l pos bad 8).1
  · simp only [if_pos hc]
  · simp only [if_neg hc]
theorem st_done (l : List Int) (pos : Nat) (bad : Bool) (hp : pos ≤ l.length) : ((⟨l.drop pos, bad⟩ : Rs).done == 0) = (!bad && decide (pos = l.length)) := by
  unfold Rs.done
  simp only [List.length_drop]
  cases bad
  · by_cases h : pos = l.length
    · simp [h]
    · have : 0 < l.length - pos := by omega
      simp [h, this]
  · simp
theorem RdrS.keepBut {W W' : World} {g h : Nat} {B : Nat → Prop} {r : Rs} (hR : RdrS W g B r) (hk : KeepBut W W' h none) (hn : ∀ k, B k → k ≠ h) : RdrS W' g B r := RdrAt.keepBut hR hk hn
theorem RdrS.of {W : World} {g : Nat} {B : Nat → Prop} {r : Rs} (hR : RdrS W g B r) : B g := by obtain ⟨_, _, _, _, _, _, h5⟩ := hR; exact h5
theorem RdrS.belowT {W W' : World} {g : Nat} {B : Nat → Prop} {r : Rs} (h : RdrS W g B r) (hb : Below W.heap.size W W') : RdrS W' g B r := RdrAt.below h hb
/-- What is behind one call of each: the two still show the same. -/
def Both (w0 W : World) (g h : Nat) (B : Nat → Prop) (A : Option Addr) (c : Nat) (l : List Int) (pos : Nat) (bad : Bool) : Prop := RdrS W g B ⟨l.drop pos, bad⟩ ∧ StAt w0 W h A c l pos bad
set_option maxRecDepth 100000 in
set_option maxHeartbeats 3200000 in
theorem same_calls (w0 : World) (g h : Nat) (B : Nat → Prop) (A : Option Addr) (c : Nat) (l : List Int) (pos : Nat) (bad : Bool) (t1 t2 : Int) (w : World) (hB : Both w0 w g h B A c l pos bad) (hBh : ∀ k, B k → k ≠ h ∧ w0.heap.size ≤ k) (hm : l.length ≤ 140737488355000)
    (ht1 : 0 ≤ t1) (ht2 : t1 < 256) (hn1 : -9223372036854775808 ≤ t2) (hn2 : t2 ≤ 9223372036854775807) :
    Calls Try.prog 21 #[.pointer (some ⟨g, 0, none⟩), .pointer (some ⟨h, 0, none⟩), .agg #[.int .u8 t1, .int .i64 t2]] w fun e w' => e = .returned (.bool true) ∧ ∃ pos' bad', Both w0 w' g h B A c l pos' bad' := by
  have hgh : g ≠ h := (hBh g hB.1.of).1
  have hg0 : w0.heap.size ≤ g := (hBh g hB.1.of).2
  have hlt : h < w.heap.size := hB.2.blk.lt
  have hlg : g < w.heap.size := by obtain ⟨_, _, h1, _⟩ := hB.1; exact h1.lt
  have HR := Aside0.mk (hB.1.alloc (.cells #[.int .u8 t1, .int .i64 t2] 50))
  have HS := Aside0.mk (hB.2.below (below_alloc (Below.refl _ _) (.cells #[.int .u8 t1, .int .i64 t2] 50)))
  have hlen : ∀ p, (l.drop p).length ≤ 140737488355000 := fun p => by simp; omega
  have HBH := Aside0.mk hBh
  have hx : t1.tmod 7 = 0 ∨ t1.tmod 7 = 1 ∨ t1.tmod 7 = 2 ∨ t1.tmod 7 = 3 ∨ t1.tmod 7 = 4 ∨ t1.tmod 7 = 5 ∨ t1.tmod 7 = 6 := by rw [Int.tmod_eq_emod_of_nonneg ht1]; omega
  clear hB hBh ht1 ht2
  have HL := Aside0.mk hlen
  clear hlen
  rcases hx with hx | hx | hx | hx | hx | hx | hx
  · have e1 := Aside0.mk (st_byte l pos bad)
    have k2 := Aside0.mk (fun w hS => STake_calls w0 h A c l pos bad 1 1 rfl w hS hm (by decide))
    have HM := Aside0.mk (stTake_mem l pos bad 1)
    have HLn := Aside0.mk (stTake_len l pos bad 1)
    generalize stTake l pos bad 1 = t at *
    obtain ⟨xs, p2, b2⟩ := t
    simp only [] at *
    have hb := beVal_lt xs (fun x hx => HS.out.byt x (HM.out x hx))
    have hp := pow_le xs.length 1 HLn.out
    have e256 : (256 : Int) ^ 1 = 256 := by decide
    obtain ⟨v, hv⟩ : ∃ v, beVal xs = v := ⟨_, rfl⟩
    have HV := Aside0.mk hv
    have hw : IntKind.u64.wrap v = v := by rw [IntKind.wrap_u64]; rw [hv] at hb; omega
    clear hb hp hv e256
    go_enter Try.func21, Try.ntmps21
    go_wp2_with fail
    refine (Byte_calls g B ⟨l.drop pos, bad⟩ _ HR.out (HL.out pos)).mono ?_
    rintro e w1 ⟨rfl, hR, hG⟩
    rw [e1.out] at hR ⊢
    have HR1 := Aside0.mk hR
    have HS1 := Aside0.mk (HS.out.grown hG hgh hg0)
    clear hR hG
    simp only [HV.out]
    go_wp2_with fail
    refine (k2.out _ HS1.out).mono ?_
    rintro e w2 ⟨A2, c2, rfl, hC, hS2, hK⟩
    have HC2 := Aside0.mk (Kd.C_below hC hS2.bel)
    have HR2 := Aside0.mk (HR1.out.keepBut hK (fun k hk => (HBH.out k hk).1))
    have HS2 := Aside0.mk hS2
    clear hC hS2 hK
    go_wp2_with fail
    refine (Value_calls A2 c2 xs.length xs rfl _ HC2.out (fun x hx => HS.out.byt x (HM.out x hx)) (Nat.le_trans HLn.out (by decide))).mono ?_
    rintro e w3 ⟨rfl, hd⟩
    rw [HV.out]
    have HB3 := Aside0.mk (show Both w0 w3 g h B A c l p2 b2 from ⟨HR2.out.belowT hd.below, HS2.out.below hd.below⟩)
    clear hd
    go_wp2_with fail
    go_ret
    exact ⟨rfl, _, _, HB3.out⟩
  · have e1 := Aside0.mk (st_uint l pos bad)
    have k2 := Aside0.mk (fun w hS => SUint_calls w0 h A c l pos bad w hS hm)
    generalize stTake l pos bad 8 = t at *
    obtain ⟨xs, p2, b2⟩ := t
    simp only [] at *
    generalize beVal xs = v at *
    go_enter Try.func21, Try.ntmps21
    go_wp2_with fail
    refine (Uint_calls g B ⟨l.drop pos, bad⟩ _ HR.out (HL.out pos)).mono ?_
    rintro e w1 ⟨rfl, hR, hG⟩
    rw [e1.out] at hR ⊢
    have HR1 := Aside0.mk hR
    have HS1 := Aside0.mk (HS.out.grown hG hgh hg0)
    clear hR hG
    go_wp2_with fail
    refine (k2.out _ HS1.out).mono ?_
    rintro e w2 ⟨rfl, hS2, hK⟩
    have HB2 := Aside0.mk (show Both w0 w2 g h B A c l p2 b2 from ⟨HR1.out.keepBut hK (fun k hk => (HBH.out k hk).1), hS2⟩)
    clear hS2 hK
    go_wp2_with fail
    go_ret
    exact ⟨rfl, _, _, HB2.out⟩
  · have e1 := Aside0.mk (st_int l pos bad)
    have k2 := Aside0.mk (fun w hS => SUint_calls w0 h A c l pos bad w hS hm)
    generalize stTake l pos bad 8 = t at *
    obtain ⟨xs, p2, b2⟩ := t
    simp only [] at *
    generalize beVal xs = v at *
    go_enter Try.func21, Try.ntmps21
    go_wp2_with fail
    refine (Int_calls g B ⟨l.drop pos, bad⟩ _ HR.out (HL.out pos)).mono ?_
    rintro e w1 ⟨rfl, hR, hG⟩
    rw [e1.out] at hR ⊢
    have HR1 := Aside0.mk hR
    have HS1 := Aside0.mk (HS.out.grown hG hgh hg0)
    clear hR hG
    go_wp2_with fail
    refine (k2.out _ HS1.out).mono ?_
    rintro e w2 ⟨rfl, hS2, hK⟩
    have HB2 := Aside0.mk (show Both w0 w2 g h B A c l p2 b2 from ⟨HR1.out.keepBut hK (fun k hk => (HBH.out k hk).1), hS2⟩)
    clear hS2 hK
    go_wp2_with fail
    go_ret
    exact ⟨rfl, _, _, HB2.out⟩
  · have e1 := Aside0.mk (st_text l pos bad)
    have k2 := Aside0.mk (fun w hS => SText_calls w0 h A c l pos bad w hS hm)
    generalize stText l pos bad = t at *
    obtain ⟨xs, p2, b2⟩ := t
    simp only [] at *
    go_enter Try.func21, Try.ntmps21
    go_wp2_with fail
    obtain ⟨S, hS⟩ : ∃ S, strOfNums xs = S := ⟨_, rfl⟩
    have HSt := Aside0.mk hS
    have HSd := Aside0.mk (HS.out.below (below_drew (Below.refl _ _)))
    clear hS
    go_region_with (first
      | (go_at_call 11; refine (Text_calls g B ⟨l.drop pos, bad⟩ _ HR.out.drew (HL.out pos)).mono ?_; rintro e w1 ⟨v1, rfl, hV, hR, hG⟩; rw [e1.out] at hV hR; (have hcv1 := str_own hV); rw [HSt.out] at hcv1; (have HV1 := Aside0.mk (Kd.R_bound hV)); (have HR1 := Aside0.mk hR); (have HS1 := Aside0.mk (HSd.out.grown hG hgh hg0)); (have HLT := Aside0.mk HSd.out.blk.lt); clear hV hR hG)
      | (go_at_call 36; refine (k2.out _ HS1.out).mono ?_; rintro e w2 ⟨A2, c2, rfl, hC, hS2, hK⟩; (have hcv1b := str_own (Kd.R_keep HV1.out hK (fun k hk => by have := hk.2.1; have := HLT.out; omega))); rw [HSt.out] at hcv1b; (have hcv2 : (convert 22 9 (.slice A2 xs.length c2)).run Try.prog w2 = .ok (.string (strOfNums xs)) w2 := Kd.C_string (P := Try.prog) (c := c2) Try.underlying22 Try.underlying5 Try.underlying9 (Kd.C_below hC hS2.bel)); rw [HSt.out] at hcv2; (have HB2 := Aside0.mk (show Both w0 w2 g h B A c l p2 b2 from ⟨HR1.out.keepBut hK (fun k hk => (HBH.out k hk).1), hS2⟩)); clear hC hS2 hK))
    all_goals
      go_wp2_with fail
      go_ret
      exact ⟨(by first | rfl | simp), _, _, HB2.out⟩
  · have e1 := Aside0.mk (st_count l pos bad t2)
    have k2 := Aside0.mk (fun w hS => SCount_calls w0 h A c l pos bad t2 w hS hm hn2 hn1)
    generalize stCount l pos bad t2 = t at *
    obtain ⟨v, p2, b2⟩ := t
    simp only [] at *
    go_enter Try.func21, Try.ntmps21
    go_wp2_with fail
    have HSd := Aside0.mk (HS.out.below (below_drew (Below.refl _ _)))
    have HT : Aside0 (Blk (w.alloc (.cells #[.int .u8 t1, .int .i64 t2] 50)).drew w.heap.size (.cells #[.int .u8 t1, .int .i64 t2] 50)) := ⟨(Blk.new rfl).drew⟩
    have HLT : Aside0 (h < w.heap.size ∧ g < w.heap.size) := ⟨hlt, hlg⟩
    go_region_with (first
      | (go_at_call 27; refine (Count_calls g B ⟨l.drop pos, bad⟩ t2 _ HR.out.drew (HL.out pos) hn2 hn1).mono ?_; rintro e w1 ⟨rfl, hR, hG⟩; rw [e1.out] at hR ⊢; (have HR1 := Aside0.mk hR); (have HS1 := Aside0.mk (HSd.out.grown hG hgh hg0)); (have HT1 := Aside0.mk (show Blk w1 w.heap.size _ from ⟨(hG.block _ HT.out.lt (fun e => by have := HLT.out.2; injection e with e; omega)).trans HT.out.out⟩)); (have q1 := HT1.out.cell 1); simp at q1; clear hR hG)
      | (go_at_call 37; refine (k2.out _ HS1.out).mono ?_; rintro e w2 ⟨rfl, hS2, hK⟩; (have HB2 := Aside0.mk (show Both w0 w2 g h B A c l p2 b2 from ⟨HR1.out.keepBut hK (fun k hk => (HBH.out k hk).1), hS2⟩)); (have HT2 := Aside0.mk (show Blk w2 w.heap.size _ from ⟨(hK.2 _ HT1.out.lt (by have := HLT.out.1; omega) (by simp)).trans HT1.out.out⟩)); (have q1 := HT2.out.cell 1); simp at q1; clear hS2 hK))
    all_goals
      go_wp2_with fail
      go_ret
      exact ⟨(by first | rfl | simp), _, _, HB2.out⟩
  · go_enter Try.func21, Try.ntmps21
    go_wp2_with fail
    refine (Bad_any g B (l.drop pos) bad _ HR.out).mono ?_
    rintro e w1 ⟨rfl, hR, hG⟩
    have HR1 := Aside0.mk (show RdrS w1 g B ⟨l.drop pos, true⟩ from hR)
    have hS1 := HS.out.grown hG hgh hg0
    have HS1 := Aside0.mk hS1
    have f2 := hS1.blk.free 2
    have q2 := hS1.blk.cell 2
    simp at q2
    clear hR hG hS1
    go_wp2_with fail
    have HS2 := Aside0.mk HS1.out.spoil
    have HR2 := Aside0.mk (HR1.out.keepBut (h := h) ((KeepBut.refl w1 h none).set_ 2 (.bool true)) (fun k hk => (HBH.out k hk).1))
    refine (Done_calls g B ⟨l.drop pos, true⟩ _ HR2.out (Nat.le_trans (HL.out pos) (by decide))).mono ?_
    rintro e w5 ⟨rfl, rfl⟩
    obtain ⟨dn, hdn⟩ : ∃ dn, (⟨l.drop pos, true⟩ : Rs).done = dn := ⟨_, rfl⟩
    obtain ⟨q, hq⟩ : ∃ q, (!true && decide (pos = l.length)) = q := ⟨_, rfl⟩
    have hd := st_done l pos true HS2.out.le
    have k5 := Aside0.mk (SDone_calls w0 h A c l pos true _ HS2.out)
    rw [hdn, hq] at hd
    rw [hq] at k5
    rw [hdn]
    clear hdn hq
    go_wp2_with fail
    refine k5.out.mono ?_
    rintro e w6 ⟨rfl, hdr⟩
    have HB6 := Aside0.mk (show Both w0 w6 g h B A c l pos true from ⟨RdrS.belowT HR2.out hdr.below, HS2.out.below hdr.below⟩)
    clear hdr
    go_wp2_with fail
    go_ret
    exact ⟨by simp, _, _, HB6.out⟩
  · go_enter Try.func21, Try.ntmps21
    go_wp2_with fail
    refine (Done_calls g B ⟨l.drop pos, bad⟩ _ HR.out (Nat.le_trans (HL.out pos) (by decide))).mono ?_
    rintro e w5 ⟨rfl, rfl⟩
    obtain ⟨dn, hdn⟩ : ∃ dn, (⟨l.drop pos, bad⟩ : Rs).done = dn := ⟨_, rfl⟩
    obtain ⟨q, hq⟩ : ∃ q, (!bad && decide (pos = l.length)) = q := ⟨_, rfl⟩
    have hd := st_done l pos bad HS.out.le
    have k5 := Aside0.mk (SDone_calls w0 h A c l pos bad _ HS.out)
    rw [hdn, hq] at hd
    rw [hq] at k5
    rw [hdn]
    clear hdn hq
    go_wp2_with fail
    refine k5.out.mono ?_
    rintro e w6 ⟨rfl, hdr⟩
    have HB6 := Aside0.mk (show Both w0 w6 g h B A c l pos bad from ⟨RdrS.belowT HR.out hdr.below, HS.out.below hdr.below⟩)
    clear hdr
    go_wp2_with fail
    go_ret
    exact ⟨by simp, _, _, HB6.out⟩
end Go.Proofs.Ytbiidbiammppiaa.Ext
