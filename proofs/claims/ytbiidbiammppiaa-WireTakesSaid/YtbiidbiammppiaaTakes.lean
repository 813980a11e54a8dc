/- WireTakes, walked. -/
import Derived.Test.YtbiidbiammppiaaSame
namespace Go.Proofs.Ytbiidbiammppiaa.Ext
open Go.RowKit Go.Proofs.YtbiidbiammppiaaW.PrintWords Go.Proofs.YtbiidbiammppiaaW.PrintLast Go.Proofs.YtbiidbiammppiaaW.PrintMore Go.Proofs.YtbiidbiammppiaaW.Hand
set_option linter.unusedVariables false
theorem own_addr {W : World} {e base : Nat} {ok : Nat → Prop} {A : Option Addr} {n c : Nat} {xs : List Int} (h : Kd.R (Kd.int .u8) e W base ok (.slice A n c) xs) (hn : 0 < n) : ∃ g, A = some ⟨g, 0, none⟩ ∧ base ≤ g ∧ ok g := by
  have h0 := h.1
  obtain ⟨inner, ho⟩ := Kd.R_own h
  have hl := (Kd.R_reads' h).1
  rcases ho.2 with ⟨h1, _⟩ | ⟨g, cap, cells, h1, h2, _⟩
  · injection h1 with h1 h2 h3; omega
  · injection h1 with h1 h2' h3
    subst h1
    exact ⟨g, rfl, h2, h0 g rfl⟩
set_option maxRecDepth 100000 in
set_option maxHeartbeats 3200000 in
theorem WireTakes.go (A : Option Addr) (c : Nat) (l : List Int) (a : Option Addr) (cp : Nat) (L : List (Int × Int)) (w : World) (hr : Kd.C (Kd.int .u8) w A l.length l) (hcap : l.length ≤ c) (hb : ∀ x ∈ l, IsByte x) (hL : TakesAt w a L) :
    Calls Try.prog 7 #[.slice A l.length c, .slice a L.length cp] w fun e w' => e = .returned (.bool true) ∧ Below w.heap.size w w' := by
  have HR := Aside0.mk hr
  have HBy := Aside0.mk hb
  have HL := Aside0.mk hL
  clear hr hb hL
  by_cases h1 : (5000 : Int) < l.length
  · go_enter Try.func7, Try.ntmps7
    go_wp2_with fail
    go_ret
    exact ⟨rfl, Below.refl _ _⟩
  by_cases h2 : (200 : Int) < L.length
  · go_enter Try.func7, Try.ntmps7
    go_wp2_with fail
    go_ret
    exact ⟨rfl, Below.refl _ _⟩
  go_enter Try.func7, Try.ntmps7
  go_wp2_with (at_builtin; refine Kd.R_append_row (Value.int .u8) (0 : Int) (w0 := w) w.heap.size rfl (.tmp 18) (.tmp 19) 22 5 (.int .u8 0) 1 rfl Try.underlying22 infoU8 rfl (by decide) (.slice (some ⟨w.heap.size, 0, none⟩) 0 0) [] l A l.length c (fun k => w.heap.size ≤ k) rfl rfl (fun k hk => by simp at hk; omega) (R_empty w _ _ (Nat.le_refl _) (Nat.le_refl _)) (Kd.C_alloc HR.out _) (below_alloc (Below.refl _ _) _) (by simp) (by simp; omega) ?_; intro v1 w1 ho hb hg hat; simp only [List.nil_append] at ho; obtain ⟨Av, cv, ev⟩ := Kd.R_slice ho; subst ev; have HO := Aside0.mk (Kd.R_bound ho); have HB := Aside0.mk hb; clear ho hb hg hat)
  refine (New_calls Av cv l _ (Kd.R_reads' HO.out).2.2 HBy.out (by omega)).mono ?_
  rintro e w2 ⟨g, rfl, hR, hb⟩
  have HRd := Aside0.mk hR
  have HB2 := Aside0.mk (below_step HB.out hb)
  have HO2 := Aside0.mk (Kd.R_below HO.out hb)
  have hgl : g < w2.heap.size := by obtain ⟨_, _, h1, _⟩ := hR; exact h1.lt
  clear hR hb
  go_wp2_with fail
  have HRd3 := Aside0.mk (HRd.out.belowT (below_alloc (Below.refl _ _) (.cells #[.slice A l.length c, .int .i64 0, .bool false] 47)))
  have HO3 := Aside0.mk (Kd.R_below HO2.out (below_alloc (Below.refl _ _) (.cells #[.slice A l.length c, .int .i64 0, .bool false] 47)))
  have HS3 : Aside0 (StAt w (w2.alloc (.cells #[.slice A l.length c, .int .i64 0, .bool false] 47)) w2.heap.size A c l 0 false) := ⟨⟨Blk.new rfl, Nat.zero_le _, hcap, HR.out, below_alloc HB2.out _, HB2.out.size, HBy.out⟩⟩
  clear HRd HO2
  have HO4 := Aside0.mk (Kd.R_mono HO3.out (fun k hk => (⟨hk.1, hk.2.2.1⟩ : w.heap.size ≤ k ∧ k < w1.heap.size)))
  have hw1 : w.heap.size ≤ w1.heap.size := HB.out.size
  have hw12 : w1.heap.size ≤ w2.heap.size := by
    have := HRd3.out.of
    omega
  obtain ⟨H, hH⟩ : ∃ H, w2.heap.size = H := ⟨_, rfl⟩
  rw [hH] at HS3 HRd3 hw12
  rw [hH]
  clear hH
  clear HO3 HO HB HB2 hgl
  go_loopw [8] (fun i wr => ∃ (k : Nat) (zs : List Int), k ≤ l.length ∧ i = .int .i64 k ∧ Aside0 (Kd.R (Kd.int .u8) 5 wr w.heap.size (fun k => w.heap.size ≤ k ∧ k < w1.heap.size) (.slice Av l.length cv) zs) ∧ Aside0 (Both w wr g H (fun k => w1.heap.size ≤ k ∧ k < H) A c l 0 false)) (fun i _ => l.length - (intOf i).toNat)
  case atStart => exact ⟨0, l, by omega, rfl, HO4, ⟨⟨HRd3.out, HS3.out⟩⟩⟩
  case round =>
    obtain ⟨k, zs, hk, rfl, HZ, HX⟩ := hrel
    by_cases hlt : k < l.length
    · obtain ⟨b0, rfl, hb0, hb1⟩ := own_addr HZ.out (by omega)
      obtain ⟨q1, q2⟩ := Kd.R_celln (enc := Value.int .u8) (h1 := fun _ => rfl) (0 : Int) HZ.out (k : Int) (by omega) (by omega)
      simp only [Int.toNat_natCast] at q1 q2
      obtain ⟨z, hz⟩ : ∃ z, rdOf (0 : Int) zs (k : Int) = z := ⟨_, rfl⟩
      rw [hz] at q1
      have HZn := Aside0.mk (Kd.R_putn (enc := Value.int .u8) (h1 := fun _ => rfl) HZ.out (k : Int) (bits .xor .u8 z 255))
      simp only [Int.toNat_natCast] at HZn
      have HXn : Aside0 (Both w (wr.setCell ⟨b0, k, none⟩ (.int .u8 (bits .xor .u8 z 255))) g H (fun k => w1.heap.size ≤ k ∧ k < H) A c l 0 false) := ⟨by
        have hg := grown_put wr b0 k (.int .u8 (bits .xor .u8 z 255))
        exact ⟨RdrAt.keep HX.out.1 (fun j hj hl => hg.block j hl (fun e => by injection e with e; omega)), HX.out.2.grown hg (by omega) (by omega)⟩⟩
      clear hz HZ HX
      go_wp2_with fail
      go_roundw
      case rel => exact ⟨k + 1, _, by omega, by go_num, HZn, HXn⟩
      case measure => simp [intOf]; omega
    · have hkl : k = l.length := by omega
      subst hkl
      clear HZ HO4 HS3 HRd3
      go_wp2_with fail
      go_loopw [9] (fun i wr => ∃ (k pos : Nat) (bad : Bool), k ≤ L.length ∧ i = .int .i64 k ∧ Aside0 (Both w wr g H (fun k => w1.heap.size ≤ k ∧ k < H) A c l pos bad)) (fun i _ => L.length - (intOf i).toNat)
      case atStart => exact ⟨0, 0, false, by omega, rfl, HX⟩
      case round =>
        obtain ⟨k, pos, bad, hk, rfl, HX⟩ := hrel
        by_cases hlt : k < L.length
        · obtain ⟨b, o, e1, hc⟩ := HL.out.2 (by omega)
          cases e1
          obtain ⟨p, hp⟩ : ∃ p, L[k]? = some p := ⟨_, List.getElem?_eq_getElem hlt⟩
          obtain ⟨ha, hn⟩ := hc k p hp
          obtain ⟨m1, m2, m3, m4⟩ := HL.out.1 p (List.mem_of_getElem? hp)
          have hbl := HX.out.2.bel
          have ha2 := (hbl.cell (World.block_lt_of_cell? w _ ha)).trans ha
          have hn2 := (hbl.cell (World.block_lt_of_cell? w _ hn)).trans hn
          obtain ⟨t1, t2⟩ := p
          simp only at ha2 hn2 m1 m2 m3 m4
          clear hc hp ha hn hbl
          have k1 := Aside0.mk (same_calls w g H (fun k => w1.heap.size ≤ k ∧ k < H) A c l pos bad t1 t2 _ HX.out (fun k hk => ⟨by omega, by have := hw1; omega⟩) (by omega) m1 m2 m3 m4)
          clear m1 m2 m3 m4
          go_wp2_with fail
          refine k1.out.mono ?_
          rintro e w5 ⟨rfl, pos2, bad2, hB⟩
          have HX2 := Aside0.mk hB
          clear hB
          go_wp2_with fail
          go_roundw
          case rel => exact ⟨k + 1, pos2, bad2, by omega, by go_num, HX2⟩
          case measure => simp [intOf]; omega
        · obtain rfl : k = L.length := by omega
          go_wp2_with fail
          refine (Done_calls g _ ⟨l.drop pos, bad⟩ _ HX.out.1 (by simp; omega)).mono ?_
          rintro e w5 ⟨rfl, rfl⟩
          obtain ⟨dn, hdn⟩ : ∃ dn, (⟨l.drop pos, bad⟩ : Rs).done = dn := ⟨_, rfl⟩
          obtain ⟨q, hq⟩ : ∃ q, (!bad && decide (pos = l.length)) = q := ⟨_, rfl⟩
          have hd := st_done l pos bad HX.out.2.le
          have k5 := Aside0.mk (SDone_calls w H A c l pos bad _ HX.out.2)
          rw [hdn, hq] at hd
          rw [hq] at k5
          rw [hdn]
          clear hdn hq
          go_wp2_with fail
          refine k5.out.mono ?_
          rintro e w6 ⟨rfl, hdr⟩
          have HB6 := Aside0.mk (below_step HX.out.2.bel hdr.below)
          have he : (q == q) = true := by simp
          clear hdr
          go_wp2_with fail
          refine (goes_true _).mono ?_
          rintro e w7 ⟨rfl, hb⟩
          have HB7 := Aside0.mk (below_step HB6.out hb)
          clear hb
          go_wp2_with fail
          go_ret
          exact ⟨rfl, HB7.out⟩
theorem bytes_open2 {H : Type} {enc : TypeId × Value → H} {W : World} {a : Option Addr} {len cap : Nat} {d : DataW H} {p : List MemPlace}
    (h : DataW.Trod enc Try.prog W 0 (fun _ => true) true 22 (.slice a len cap) d p) : len ≤ cap := by
  obtain ⟨fuel, hf⟩ := h
  rcases Go.ChangeShapes.open_ints Try.underlying22 Try.underlying5 (by kernel_rfl) hf with ⟨hcs, _⟩ | ⟨x, l, c, zs, hcs, _, hl, hm, hz, _, hcell, hwz⟩
  · simp [Value.cells] at hcs
    omega
  · simp [Value.cells] at hcs
    omega
theorem WireTakes.walk {H : Type} {enc : TypeId × Value → H} (a0 : Option Addr) (len0 cap0 : Nat) (a1 : Option Addr) (len1 cap1 : Nat) (w : World) {d0 d1 : DataW H} {p0 p1 : List MemPlace}
    (k0 : DataW.Trod enc Try.prog w 0 (fun _ => true) true 22 (.slice a0 len0 cap0) d0 p0) (k1 : DataW.Trod enc Try.prog w 0 (fun _ => true) true 44 (.slice a1 len1 cap1) d1 p1) :
    Calls Try.prog 7 #[.slice a0 len0 cap0, .slice a1 len1 cap1] w fun e w' => e = .returned (.bool true) ∧ Below w.heap.size w w' := by
  have hc := bytes_open2 k0
  obtain ⟨l, rfl, hr, hb⟩ := bytes_open k0
  obtain ⟨L, rfl, _, hL⟩ := takes_open k1
  exact WireTakes.go a0 cap0 l a1 cap1 L w hr hc hb hL
end Go.Proofs.Ytbiidbiammppiaa.Ext
