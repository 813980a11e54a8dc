/- Contracts of quitrentref01's Value and State, proved by walking their code. -/
import Derived.Test.YtbiidbiammppiaaRead
namespace Go.Proofs.Ytbiidbiammppiaa.Ext
open Go.RowKit Go.Proofs.YtbiidbiammppiaaW.PrintWords Go.Proofs.YtbiidbiammppiaaW.PrintLast Go.Proofs.YtbiidbiammppiaaW.PrintMore Go.Proofs.YtbiidbiammppiaaW.Hand
set_option linter.unusedVariables false
set_option maxHeartbeats 800000 in
theorem Value_calls (A : Option Addr) (c n : Nat) (l : List Int) (hn : l.length = n) (w : World) (hr : Kd.C (Kd.int .u8) w A n l) (h : ∀ c ∈ l, IsByte c) (h8 : l.length ≤ 8) :
    Calls Try.prog 33 #[.slice A n c] w fun e w' => e = .returned (.int .u64 (beVal l)) ∧ Drawn0 w w' := by
  subst hn
  have HR := Aside0.mk hr
  clear hr
  go_enter Try.func33, Try.ntmps33
  go_wp2
  go_loopw [3, 4] (fun v i wr => ∃ j : Nat, j ≤ l.length ∧ i = .int .i64 j ∧ v = .int .u64 (beVal (l.take j)) ∧ Aside0 (Drawn0 w wr)) (fun _ i _ => l.length - (intOf i).toNat)
  case atStart => exact ⟨0, by omega, rfl, by simp [beVal], ⟨Drawn0.refl _⟩⟩
  case round =>
    obtain ⟨j, hj, rfl, rfl, HD⟩ := hrel
    by_cases hlt : j < l.length
    · obtain ⟨ad, e1, hx⟩ := Kd.at_int (Kd.C_below HR.out HD.out.below) j (by omega) (by omega)
      cases e1
      simp only [Int.toNat_natCast] at hx
      obtain ⟨h1, h2, h3⟩ := sum_step l h h8 j hlt
      have hc := rd_byte l h j hlt
      obtain ⟨c1, HC⟩ : ∃ c, Aside0 (c = rd l j) := ⟨_, ⟨rfl⟩⟩
      rw [← HC.out] at hx h2 h3 hc
      obtain ⟨v1, HV⟩ : ∃ v, Aside0 (v = beVal (l.take j)) := ⟨_, ⟨rfl⟩⟩
      rw [← HV.out] at h1 h2 h3 ⊢
      have H3 := Aside0.mk h3
      have hc1 := hc.1
      have hc2 := hc.2
      clear hc h3 h
      have q1 : IntKind.u64.wrap (v1 * 256) = v1 * 256 := by rw [u64_conv, Int.emod_eq_of_lt (by omega) (by omega)]
      have q2 : IntKind.u64.wrap (v1 * 256 + c1) = v1 * 256 + c1 := by rw [u64_conv, Int.emod_eq_of_lt (by omega) (by omega)]
      have q3 : bits .or .u64 (v1 * 256) c1 = v1 * 256 + c1 := by
        have et : top64 = 18446744073709551616 := rfl
        exact bits_join .u64 64 (by decide) (fun n h0 h1 => by rw [IntKind.wrap_u64]; omega) 8 (v1 * 256) c1 (by omega) (by omega) (by omega) hc1 (by omega) (by omega)
      go_wp2_with fail
      go_roundw
      case rel => exact ⟨j + 1, by omega, by go_num, by rw [H3.out], HD⟩
      case measure => simp [intOf]; omega
    · obtain rfl : j = l.length := by omega
      rw [List.take_length]
      go_wp2_with fail
      go_ret
      exact ⟨rfl, HD.out⟩
theorem cut_mid {A : Option Addr} {c : Nat} {xs : List Int} {a b : Nat} (h1 : a ≤ b) (hm : b ≤ xs.length) (hc : xs.length ≤ c) (bi : Int) (hb : bi = (b : Int)) :
    ∃ (A' : Option Addr) (c' : Nat), (∀ W : World, (Instr.slice 22 (.slice A xs.length c) (some (.int .i64 (a : Int))) (some (.int .i64 bi)) none).run Try.prog W = .ok (.slice A' (b - a) c') W) ∧
      (∀ w : World, Kd.C (Kd.int .u8) w A xs.length xs → Kd.C (Kd.int .u8) w A' ((xs.take b).drop a).length ((xs.take b).drop a)) ∧ b - a ≤ c' := by
  subst hb
  obtain ⟨i0, hi, hz0, hz1, hz2⟩ := info_parts infoU8
  obtain ⟨A', h3, h4, h5⟩ := print_mid_of (P := Try.prog) (Value.int .u8) (0 : Int) 22 5 .i64 .i64 Try.underlying22 hi hz1 A c xs (a : Int) (b : Int) (by omega) (by omega) (by omega) hc
  have hl : ((xs.take b).drop a).length = b - a := by simp; omega
  simp only [Int.toNat_natCast, hl] at h3 h5
  simp only [Int.toNat_natCast] at h4
  exact ⟨A', _, h3, fun w h => Kd.C_of_reads (d := (0 : Int)) (h1 := fun _ => rfl) (h4 w (Kd.reads_of_C (enc := Value.int .u8) (d := (0 : Int)) (h1 := fun _ => rfl) h)), h5⟩
/-- The document's reader at block h: its bytes lie in the memory that came in (w0). -/
structure StAt (w0 W : World) (h : Nat) (A : Option Addr) (c : Nat) (l : List Int) (pos : Nat) (bad : Bool) : Prop where
  blk : Blk W h (.cells #[.slice A l.length c, .int .i64 pos, .bool bad] 47)
  le : pos ≤ l.length
  cap : l.length ≤ c
  row : Kd.C (Kd.int .u8) w0 A l.length l
  bel : Below w0.heap.size w0 W
  new : w0.heap.size ≤ h
  byt : ∀ x ∈ l, IsByte x
def stTake (l : List Int) (pos : Nat) (bad : Bool) (n : Nat) : List Int × Nat × Bool :=
  if bad = true ∨ l.length - pos < n then ([], pos, true) else ((l.take (pos + n)).drop pos, pos + n, false)
theorem StAt.grown {w0 W W' : World} {h g : Nat} {A : Option Addr} {c : Nat} {l : List Int} {pos : Nat} {bad : Bool} (hS : StAt w0 W h A c l pos bad) (hg : W.grownBy W' (some g)) (hne : g ≠ h) (hg0 : w0.heap.size ≤ g) : StAt w0 W' h A c l pos bad :=
  ⟨⟨(hg.block h hS.blk.lt (fun e => hne (by injection e with e; exact e.symm))).trans hS.blk.out⟩, hS.le, hS.cap, hS.row, hS.bel.grown hg hS.bel.size (fun k hk => by injection hk with hk; omega), hS.new, hS.byt⟩
theorem RdrAt.keepBut {W W' : World} {g h : Nat} {B : Nat → Prop} {xs : List Int} {bad : Bool} (hR : RdrAt W g B xs bad) (hk : KeepBut W W' h none) (hn : ∀ k, B k → k ≠ h) : RdrAt W' g B xs bad :=
  hR.keep (fun k hB hl => hk.2 k hl (hn k hB) (by simp))
theorem StAt.below {w0 W W' : World} {h : Nat} {A : Option Addr} {c : Nat} {l : List Int} {pos : Nat} {bad : Bool} (hS : StAt w0 W h A c l pos bad) (hb : Below W.heap.size W W') : StAt w0 W' h A c l pos bad :=
  ⟨hS.blk.below hb, hS.le, hS.cap, hS.row, below_step hS.bel hb, hS.new, hS.byt⟩
set_option maxHeartbeats 1600000 in
theorem STake_calls (w0 : World) (h : Nat) (A : Option Addr) (c : Nat) (l : List Int) (pos : Nat) (bad : Bool) (n : Nat) (ni : Int) (hni : ni = n) (w : World) (hS : StAt w0 w h A c l pos bad) (hm : l.length ≤ 140737488355000) (hn : n < 18446744073709551616) :
    Calls Try.prog 34 #[.pointer (some ⟨h, 0, none⟩), .int .u64 ni] w fun e w' => ∃ (A2 : Option Addr) (c2 : Nat), e = .returned (.slice A2 (stTake l pos bad n).1.length c2) ∧
      Kd.C (Kd.int .u8) w0 A2 (stTake l pos bad n).1.length (stTake l pos bad n).1 ∧ StAt w0 w' h A c l (stTake l pos bad n).2.1 (stTake l pos bad n).2.2 ∧ KeepBut w w' h none := by
  have c0 := hS.blk.cell 0
  have c1 := hS.blk.cell 1
  have c2 := hS.blk.cell 2
  have f1 := hS.blk.free 1
  have f2 := hS.blk.free 2
  simp at c0 c1 c2
  have hle := hS.le
  have hs : (l.length : Int) - (pos : Int) = ((l.length - pos : Nat) : Int) := by omega
  have hw := conv_len (l.length - pos) (by omega)
  have HS := Aside0.mk hS
  clear hS
  by_cases hb : bad = true
  · subst hb
    have e : stTake l pos true n = ([], pos, true) := if_pos (.inl rfl)
    rw [e]
    go_enter Try.func34, Try.ntmps34
    go_wp2_with fail
    go_quiet (fail)
    go_wp2_with fail
    go_ret
    exact ⟨none, 0, rfl, Kd.C_nil _ _, ⟨(HS.out.blk.drewN.put 2 _ rfl), HS.out.le, HS.out.cap, HS.out.row, below_set (pw_below_drewN HS.out.bel _) HS.out.new, HS.out.new, HS.out.byt⟩, ⟨by simp [World.setCell], fun k _ hne _ => Below.heap_setCell _ _ _ k hne⟩⟩
  · obtain rfl : bad = false := by simpa using hb
    by_cases hlt : l.length - pos < n
    · have e : stTake l pos false n = ([], pos, true) := if_pos (.inr hlt)
      rw [e]
      have hlt2 : ((l.length - pos : Nat) : Int) < ni := by omega
      clear hni
      go_enter Try.func34, Try.ntmps34
      go_wp2_with fail
      go_quiet (fail)
      go_wp2_with fail
      go_ret
      exact ⟨none, 0, rfl, Kd.C_nil _ _, ⟨(HS.out.blk.drewN.put 2 _ rfl), HS.out.le, HS.out.cap, HS.out.row, below_set (pw_below_drewN HS.out.bel _) HS.out.new, HS.out.new, HS.out.byt⟩, ⟨by simp [World.setCell], fun k _ hne _ => Below.heap_setCell _ _ _ k hne⟩⟩
    · have e : stTake l pos false n = ((l.take (pos + n)).drop pos, pos + n, false) := if_neg (by simp; omega)
      rw [e]
      have hlt2 : ¬ ((l.length - pos : Nat) : Int) < ni := by omega
      obtain ⟨A2, k2, s1, r1, m1⟩ := cut_mid (A := A) (c := c) (xs := l) (a := pos) (b := pos + n) (by omega) (by omega) HS.out.cap ((pos : Int) + ni) (by omega)
      have hwn : wrap64 ni = ni := by unfold wrap64; omega
      have hwp : wrap64 ((pos : Int) + ni) = (pos : Int) + ni := by unfold wrap64; omega
      have hmid : ((l.take (pos + n)).drop pos).length = n := by simp; omega
      rw [show pos + n - pos = n by omega] at s1
      have HR1 := Aside0.mk (r1 w0 HS.out.row)
      have HM := Aside0.mk hmid
      have HNI := Aside0.mk hni
      have hpos : (0 : Int) ≤ (pos : Int) := by omega
      clear r1 m1 hni hlt hmid
      go_enter Try.func34, Try.ntmps34
      go_wp2_with fail
      go_quiet (fail)
      go_wp2_with fail
      go_quiet (fail)
      go_wp2_with fail
      go_ret
      refine ⟨A2, k2, by rw [HM.out]; rfl, by have := HR1.out; rw [HM.out] at this ⊢; exact this, ⟨by rw [show ((pos + n : Nat) : Int) = (pos : Int) + ni from by have := HNI.out; omega]; exact HS.out.blk.drewN.put 1 _ rfl, by have := HNI.out; omega, HS.out.cap, HS.out.row, below_set (pw_below_drewN HS.out.bel _) HS.out.new, HS.out.new, HS.out.byt⟩, ⟨by simp [World.setCell], fun k _ hne _ => Below.heap_setCell _ _ _ k hne⟩⟩
theorem C_bytes {W : World} {A : Option Addr} {l l2 : List Int} (h : ∀ x ∈ l, IsByte x) (hs : ∀ x ∈ l2, x ∈ l) : ∀ x ∈ l2, IsByte x := fun x hx => h x (hs x hx)
theorem stTake_mem (l : List Int) (pos : Nat) (bad : Bool) (n : Nat) : ∀ x ∈ (stTake l pos bad n).1, x ∈ l := by
  intro x hx
  unfold stTake at hx
  split at hx
  · cases hx
  · exact List.mem_of_mem_take (List.mem_of_mem_drop hx)
theorem stTake_len (l : List Int) (pos : Nat) (bad : Bool) (n : Nat) : (stTake l pos bad n).1.length ≤ n := by
  unfold stTake
  split
  · simp
  · simp; omega
set_option maxHeartbeats 1600000 in
theorem SUint_calls (w0 : World) (h : Nat) (A : Option Addr) (c : Nat) (l : List Int) (pos : Nat) (bad : Bool) (w : World) (hS : StAt w0 w h A c l pos bad) (hm : l.length ≤ 140737488355000) :
    Calls Try.prog 35 #[.pointer (some ⟨h, 0, none⟩)] w fun e w' => e = .returned (.int .u64 (beVal (stTake l pos bad 8).1)) ∧
      StAt w0 w' h A c l (stTake l pos bad 8).2.1 (stTake l pos bad 8).2.2 ∧ KeepBut w w' h none := by
  have HS := Aside0.mk hS
  clear hS
  have k0 := Aside0.mk (fun w hS => STake_calls w0 h A c l pos bad 8 8 rfl w hS hm (by decide))
  have HL := Aside0.mk (stTake_len l pos bad 8)
  have HM := Aside0.mk (stTake_mem l pos bad 8)
  generalize stTake l pos bad 8 = t at *
  obtain ⟨xs, p2, b2⟩ := t
  simp only [] at *
  go_enter Try.func35, Try.ntmps35
  go_wp2_with fail
  refine (k0.out _ HS.out).mono ?_
  rintro e w1 ⟨A2, c2, rfl, hC, hS1, hK⟩
  have H1 := Aside0.mk hS1
  have HC := Aside0.mk (Kd.C_below hC hS1.bel)
  have HK := Aside0.mk hK
  clear hC hS1 hK
  go_wp2_with fail
  refine (Value_calls A2 c2 xs.length xs rfl _ HC.out (fun x hx => HS.out.byt x (HM.out x hx)) HL.out).mono ?_
  rintro e w2 ⟨rfl, hd⟩
  have H2 := Aside0.mk (H1.out.below hd.below)
  have HK2 := Aside0.mk (HK.out.trans (KeepBut.of_below hd.below h none) (.inl rfl))
  clear hd
  go_wp2_with fail
  go_ret
  exact ⟨rfl, H2.out, HK2.out⟩
def stText (l : List Int) (pos : Nat) (bad : Bool) : List Int × Nat × Bool :=
  stTake l (stTake l pos bad 4).2.1 (stTake l pos bad 4).2.2 (beVal (stTake l pos bad 4).1).toNat
set_option maxHeartbeats 1600000 in
theorem SText_calls (w0 : World) (h : Nat) (A : Option Addr) (c : Nat) (l : List Int) (pos : Nat) (bad : Bool) (w : World) (hS : StAt w0 w h A c l pos bad) (hm : l.length ≤ 140737488355000) :
    Calls Try.prog 36 #[.pointer (some ⟨h, 0, none⟩)] w fun e w' => ∃ (A2 : Option Addr) (c2 : Nat), e = .returned (.slice A2 (stText l pos bad).1.length c2) ∧
      Kd.C (Kd.int .u8) w0 A2 (stText l pos bad).1.length (stText l pos bad).1 ∧ StAt w0 w' h A c l (stText l pos bad).2.1 (stText l pos bad).2.2 ∧ KeepBut w w' h none := by
  have HS := Aside0.mk hS
  clear hS
  have k0 := Aside0.mk (fun w hS => STake_calls w0 h A c l pos bad 4 4 rfl w hS hm (by decide))
  have HL := Aside0.mk (stTake_len l pos bad 4)
  have HM := Aside0.mk (stTake_mem l pos bad 4)
  unfold stText
  generalize stTake l pos bad 4 = t at *
  obtain ⟨xs, p2, b2⟩ := t
  simp only [] at *
  go_enter Try.func36, Try.ntmps36
  go_wp2_with fail
  refine (k0.out _ HS.out).mono ?_
  rintro e w1 ⟨A2, c2, rfl, hC, hS1, hK⟩
  have H1 := Aside0.mk hS1
  have HC := Aside0.mk (Kd.C_below hC hS1.bel)
  have HK := Aside0.mk hK
  clear hC hS1 hK
  have hv := beVal4 xs (fun x hx => HS.out.byt x (HM.out x hx)) HL.out
  have HV := Aside0.mk hv
  clear hv
  go_wp2_with fail
  refine (Value_calls A2 c2 xs.length xs rfl _ HC.out (fun x hx => HS.out.byt x (HM.out x hx)) (Nat.le_trans HL.out (by decide))).mono ?_
  rintro e w2 ⟨rfl, hd⟩
  have H2 := Aside0.mk (H1.out.below hd.below)
  have HK2 := Aside0.mk (HK.out.trans (KeepBut.of_below hd.below h none) (.inl rfl))
  clear hd
  go_wp2_with fail
  refine (STake_calls w0 h A c l p2 b2 (beVal xs).toNat (beVal xs) (by have := HV.out.1; omega) _ H2.out hm (by have := HV.out.2; omega)).mono ?_
  rintro e w3 ⟨A3, c3, rfl, hC, hS1, hK⟩
  have HC3 := Aside0.mk hC
  have H3 := Aside0.mk hS1
  have HK3 := Aside0.mk (HK2.out.trans hK (.inl rfl))
  clear hC hS1 hK
  go_wp2_with fail
  go_ret
  exact ⟨A3, c3, rfl, HC3.out, H3.out, HK3.out⟩
theorem SDone_calls (w0 : World) (h : Nat) (A : Option Addr) (c : Nat) (l : List Int) (pos : Nat) (bad : Bool) (w : World) (hS : StAt w0 w h A c l pos bad) :
    Calls Try.prog 22 #[.pointer (some ⟨h, 0, none⟩)] w fun e w' => e = .returned (.bool (!bad && decide (pos = l.length))) ∧ Drawn0 w w' := by
  have c0 := hS.blk.cell 0
  have c1 := hS.blk.cell 1
  have c2 := hS.blk.cell 2
  simp at c0 c1 c2
  clear hS
  cases bad
  · have e : (!false && decide (pos = l.length)) = ((pos : Int) == (l.length : Int)) := by
      by_cases hp : pos = l.length <;> simp [hp]; omega
    rw [e]
    go_enter Try.func22, Try.ntmps22
    go_wp2_with fail
    go_quiet (fail)
    go_wp2_with fail
    go_ret
    exact ⟨rfl, Drawn0.step (Drawn0.refl _) _⟩
  · go_enter Try.func22, Try.ntmps22
    go_wp2_with fail
    go_quiet (fail)
    go_wp2_with fail
    go_ret
    exact ⟨rfl, Drawn0.step (Drawn0.refl _) _⟩
def stCount (l : List Int) (pos : Nat) (bad : Bool) (most : Int) : Int × Nat × Bool :=
  if most < 0 ∨ most < beVal (stTake l pos bad 8).1 then (0, (stTake l pos bad 8).2.1, true) else (beVal (stTake l pos bad 8).1, (stTake l pos bad 8).2.1, (stTake l pos bad 8).2.2)
theorem StAt.spoil {w0 W : World} {h : Nat} {A : Option Addr} {c : Nat} {l : List Int} {pos : Nat} {bad : Bool} (hS : StAt w0 W h A c l pos bad) : StAt w0 (W.setCell ⟨h, 2, none⟩ (.bool true)) h A c l pos true :=
  ⟨hS.blk.put 2 _ rfl, hS.le, hS.cap, hS.row, below_set hS.bel hS.new, hS.new, hS.byt⟩
set_option maxHeartbeats 1600000 in
theorem SCount_calls (w0 : World) (h : Nat) (A : Option Addr) (c : Nat) (l : List Int) (pos : Nat) (bad : Bool) (most : Int) (w : World) (hS : StAt w0 w h A c l pos bad) (hm : l.length ≤ 140737488355000) (hmost : most ≤ 9223372036854775807) (hmost2 : -9223372036854775808 ≤ most) :
    Calls Try.prog 37 #[.pointer (some ⟨h, 0, none⟩), .int .i64 most] w fun e w' => e = .returned (.int .i64 (stCount l pos bad most).1) ∧
      StAt w0 w' h A c l (stCount l pos bad most).2.1 (stCount l pos bad most).2.2 ∧ KeepBut w w' h none := by
  have HS := Aside0.mk hS
  clear hS
  have HL := Aside0.mk (stTake_len l pos bad 8)
  have HM := Aside0.mk (stTake_mem l pos bad 8)
  have hb := beVal_lt (stTake l pos bad 8).1 (fun x hx => HS.out.byt x (HM.out x hx))
  have hp := pow_le (stTake l pos bad 8).1.length 8 HL.out
  have k := Aside0.mk (fun w hS => SUint_calls w0 h A c l pos bad w hS hm)
  unfold stCount
  generalize stTake l pos bad 8 = t at *
  obtain ⟨xs, p2, b2⟩ := t
  simp only [] at *
  obtain ⟨v, HVV⟩ : ∃ v, Aside0 (beVal xs = v) := ⟨_, ⟨rfl⟩⟩
  rw [HVV.out] at hb k ⊢
  have e8 : (256 : Int) ^ 8 = 18446744073709551616 := by decide
  have hv0 := hb.1
  have hv1 : v < 18446744073709551616 := by omega
  clear hb hp e8 HL HM
  by_cases h1 : most < 0
  · rw [if_pos (.inl h1)]
    clear hmost hmost2 hv0 hv1
    go_enter Try.func37, Try.ntmps37
    go_wp2_with fail
    refine (k.out _ HS.out).mono ?_
    rintro e w1 ⟨rfl, hS1, hK⟩
    have H1 := Aside0.mk hS1
    have HK := Aside0.mk hK
    have f2 := hS1.blk.free 2
    have c2 := hS1.blk.cell 2
    simp at c2
    clear hS1 hK
    go_wp2_with fail
    go_ret
    exact ⟨rfl, H1.out.spoil, HK.out.set_ _ _⟩
  · have hw : IntKind.u64.wrap most = most := by rw [IntKind.wrap_u64]; omega
    by_cases h2 : most < v
    · rw [if_pos (.inr h2)]
      clear hmost hmost2 hv0 hv1
      go_enter Try.func37, Try.ntmps37
      go_wp2_with fail
      refine (k.out _ HS.out).mono ?_
      rintro e w1 ⟨rfl, hS1, hK⟩
      have H1 := Aside0.mk hS1
      have HK := Aside0.mk hK
      have f2 := hS1.blk.free 2
      have c2 := hS1.blk.cell 2
      simp at c2
      clear hS1 hK
      go_wp2_with fail
      go_ret
      exact ⟨rfl, H1.out.spoil, HK.out.set_ _ _⟩
    · rw [if_neg (by omega)]
      have hwv : wrap64 v = v := by unfold wrap64; omega
      clear hmost hmost2 hv0 hv1
      go_enter Try.func37, Try.ntmps37
      go_wp2_with fail
      refine (k.out _ HS.out).mono ?_
      rintro e w1 ⟨rfl, hS1, hK⟩
      have H1 := Aside0.mk hS1
      have HK := Aside0.mk hK
      clear hS1 hK
      go_wp2_with fail
      go_ret
      exact ⟨by rw [hwv]; rfl, H1.out, HK.out⟩
end Go.Proofs.Ytbiidbiammppiaa.Ext
