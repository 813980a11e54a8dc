/- MsgBack, proved by walking its code. -/
import Derived.Test.YtanjkhdagegapaaEElse
import Derived.Test.YtanjkhdagegapaaBPlain
import Derived.Test.YtanjkhdagegapaaG7
namespace Go.Proofs.Ytanjkhdagegapaa.Ext
open Go.RowKit Go.ChangeShapes Go.WideShapes Go.Shelf Go.Proofs.YtanjkhdagegapaaW.PrintWords Go.Proofs.YtanjkhdagegapaaW.PrintLast Go.Proofs.YtanjkhdagegapaaW.PrintMore Go.Proofs.YtanjkhdagegapaaW.Hand Go.Proofs.Ytanjkhdagegapaa.PZ
attribute [local go_sem] max2_int
set_option linter.unusedVariables false
set_option linter.unusedSimpArgs false
set_option maxRecDepth 100000 in
set_option maxHeartbeats 3200000 in
theorem mback_great (x : RQ) (A : Option Addr) (c : Nat) (more : Int) (w : World) (hC : Kd.C k39 w A x.f8.f6.length x.f8.f6) (hc : x.f8.f6.length ≤ c) (hg : quitrentlaw25_great.f x.f0 x.f1 x.f2 x.f3 x.f4 x.f5 x.f6 x.f7 x.f8.f0 x.f8.f1 x.f8.f2 x.f8.f3 x.f8.f4 x.f8.f5 x.f8.f6 = some true) :
    Calls Try.prog 7 #[.agg (rqC x A x.f8.f6.length c), .int .u8 more] w fun e w' => e = .returned (.bool true) ∧ Below w.heap.size w w' := by
  have HC := Aside0.mk hC
  have HQ := Aside0.mk (Blk.new_ (W := w) (o := .cells (rqC x A x.f8.f6.length c) 27)).out
  have HB0 := Aside0.mk (below_alloc (Below.refl w.heap.size w) (.cells (rqC x A x.f8.f6.length c) 27))
  obtain ⟨x0, x1, x2, x3, x4, x5, x6, x7, x8, x9, x10, x11, x12, x13, x14⟩ := rq_cells HQ.out
  clear hC
  go_enter Try.func7, Try.ntmps7
  go_wp2_with fail
  refine (great_calls x A c _ true (Kd.C_below HC.out HB0.out) hc hg).mono ?_
  rintro e w1 ⟨rfl, hb⟩
  have HB1 := Aside0.mk (below_step HB0.out hb)
  clear hb x0 x1 x2 x3 x4 x5 x6 x7 x8 x9 x10 x11 x12 x13 x14
  go_wp2_with fail
  go_ret
  exact ⟨rfl, HB1.out⟩
set_option maxRecDepth 100000 in
set_option maxHeartbeats 3200000 in
theorem mback_no (x : RQ) (A : Option Addr) (c : Nat) (more : Int) (w : World) (hC : Kd.C k39 w A x.f8.f6.length x.f8.f6) (hc : x.f8.f6.length ≤ c) (hy : YOk x) (hk : (mput x).2 ≠ 0) (hg : quitrentlaw25_great.f x.f0 x.f1 x.f2 x.f3 x.f4 x.f5 x.f6 x.f7 x.f8.f0 x.f8.f1 x.f8.f2 x.f8.f3 x.f8.f4 x.f8.f5 x.f8.f6 = some false) :
    Calls Try.prog 7 #[.agg (rqC x A x.f8.f6.length c), .int .u8 more] w fun e w' => e = .returned (.bool true) ∧ Below w.heap.size w w' := by
  have HM := Aside0.mk (mput_no hk)
  clear hk
  have HC := Aside0.mk hC
  have HQ := Aside0.mk (Blk.new_ (W := w) (o := .cells (rqC x A x.f8.f6.length c) 27)).out
  have HB0 := Aside0.mk (below_alloc (Below.refl w.heap.size w) (.cells (rqC x A x.f8.f6.length c) 27))
  obtain ⟨x0, x1, x2, x3, x4, x5, x6, x7, x8, x9, x10, x11, x12, x13, x14⟩ := rq_cells HQ.out
  have HY := Aside0.mk hy
  clear hC hy
  go_enter Try.func7, Try.ntmps7
  go_wp2_with fail
  refine (great_calls x A c _ false (Kd.C_below HC.out HB0.out) hc hg).mono ?_
  rintro e w1 ⟨rfl, hb⟩
  have HB1 := Aside0.mk (below_step HB0.out hb)
  have HQ1 := Aside0.mk ((hb.block _ (Array.getElem?_eq_some_iff.1 HQ.out).1).trans HQ.out)
  clear hb x0 x1 x2 x3 x4 x5 x6 x7 x8 x9 x10 x11 x12 x13 x14 HQ HB0
  obtain ⟨x0, x1, x2, x3, x4, x5, x6, x7, x8, x9, x10, x11, x12, x13, x14⟩ := rq_cells HQ1.out
  go_wp2_with fail
  refine (PutRequest_go x A c _ (Kd.C_below HC.out HB1.out) hc HY.out.ok).mono ?_
  rintro e w2 ⟨v2, rfl, hr2, hb⟩
  have HB2 := Aside0.mk (below_step HB1.out hb)
  have HQ2 := Aside0.mk ((hb.block _ (Array.getElem?_eq_some_iff.1 HQ1.out).1).trans HQ1.out)
  rw [HM.out] at hr2 ⊢
  obtain ⟨A2, c2, rfl⟩ := Kd.R_slice hr2
  dsimp only [List.length_nil]
  clear hb hr2 x0 x1 x2 x3 x4 x5 x6 x7 x8 x9 x10 x11 x12 x13 x14 HQ1 HB1
  go_wp2_with fail
  refine (goes_true _).mono ?_
  rintro e w3 ⟨rfl, hb⟩
  have HB3 := Aside0.mk (below_step HB2.out hb)
  clear hb
  go_wp2_with fail
  go_ret
  exact ⟨rfl, HB3.out⟩
theorem encF_four (x : RQ) (c : Nat) : 4 ≤ (encF x c).length := by
  unfold encF
  split; (rw [beN_length]; omega)
  split; (rw [List.length_append, beN_length]; omega)
  split; (rw [beN_length]; omega)
  split; (rw [beN_length]; omega)
  split; (rw [beN_length]; omega)
  split; (rw [beN_length]; omega)
  split; (rw [List.length_append, beN_length]; omega)
  (rw [List.length_append, beN_length]; omega)
theorem putB_two {x : RQ} (h : isKind x.f0 = true) : 2 ≤ (putB x).length := by
  have h1 : 1 ≤ x.f0 ∧ x.f0 ≤ 16 := by simpa [isKind] using h
  have hs : ∃ c l, sg (signsOf x.f0) = c :: l := by
    have : x.f0 = 1 ∨ x.f0 = 2 ∨ x.f0 = 3 ∨ x.f0 = 4 ∨ x.f0 = 5 ∨ x.f0 = 6 ∨ x.f0 = 7 ∨ x.f0 = 8 ∨ x.f0 = 9 ∨ x.f0 = 10 ∨ x.f0 = 11 ∨ x.f0 = 12 ∨ x.f0 = 13 ∨ x.f0 = 14 ∨ x.f0 = 15 ∨ x.f0 = 16 := by omega
    rcases this with e | e | e | e | e | e | e | e | e | e | e | e | e | e | e | e <;> rw [e] <;> exact ⟨_, _, rfl⟩
  obtain ⟨c, l, e⟩ := hs
  unfold putB
  rw [e, List.length_append, beN_length]
  have h4 := encF_four x c
  have : (encAll x (c :: l)).length = (encF x c).length + (encAll x l).length := by unfold encAll; simp
  omega
/-- What bytes of length m give, whole, without the last one, and with one more. -/
structure MFacts (x : RQ) (more : Int) (B : List Int) (m : Nat) : Prop where
  len : B.length = m
  low : 2 ≤ m
  top : m ≤ 100000000
  bytes : ∀ x ∈ B, IsByte x
  mbyte : IsByte more
  got : mget B = (x, 0)
  less : mget (B.take (m - 1)) = (rqNil, 21)
  plus : mget (B ++ [more]) = (rqNil, 21)
theorem mfacts {x : RQ} (hy : YOk x) (hk : (mput x).2 = 0) (more : Int) (hm : IsByte more) : MFacts x more (putB x) (putB x).length := by
  exact ⟨rfl, putB_two (mput_ok hy.pl hk).1, putB_len hy.ok, putB_bytes x, hm, (mget_mput hy.ok hy.pl hk).2, mget_less hy.ok hy.pl hk, mget_more hy.ok hy.pl hk more⟩
theorem bget (y : RQ) (er : Int) (A : Option Addr) (c m : Nat) (l : List Int) (hlm : l.length = m) (w : World) (hC : Kd.C (Kd.int .u8) w A l.length l) (hc : m ≤ c) (hby : ∀ x ∈ l, IsByte x) (hm : m ≤ 140737488353000) (hG : mget l = (y, er)) :
    Calls Try.prog 12 #[.slice A m c] w fun e w' => ∃ (A' : Option Addr) (cp : Nat), e = .returned (.tuple #[.agg (rqC y A' y.f8.f6.length cp), .int .i64 er]) ∧ Kd.R k39 39 w' w.heap.size (fun _ => True) (.slice A' y.f8.f6.length cp) y.f8.f6 ∧ Below w.heap.size w w' := by
  have h := GetRequest_go A c l w hC (by omega) hby (by omega)
  rw [hG] at h
  unfold GetPost at h
  rw [hlm] at h
  exact h
set_option maxRecDepth 100000 in
set_option maxHeartbeats 6400000 in
theorem mback_yes (x : RQ) (A : Option Addr) (c : Nat) (more : Int) (w : World) (hC : Kd.C k39 w A x.f8.f6.length x.f8.f6) (hc : x.f8.f6.length ≤ c) (hy : YOk x) (hmo : IsByte more) (hk : (mput x).2 = 0) (hg : quitrentlaw25_great.f x.f0 x.f1 x.f2 x.f3 x.f4 x.f5 x.f6 x.f7 x.f8.f0 x.f8.f1 x.f8.f2 x.f8.f3 x.f8.f4 x.f8.f5 x.f8.f6 = some false) :
    Calls Try.prog 7 #[.agg (rqC x A x.f8.f6.length c), .int .u8 more] w fun e w' => e = .returned (.bool true) ∧ Below w.heap.size w w' := by
  have HM := Aside0.mk (mget_mput hy.ok hy.pl hk).1
  have hfp := mfacts hy hk more hmo
  obtain ⟨B, hB⟩ : ∃ B, putB x = B := ⟨_, rfl⟩
  rw [hB] at HM hfp
  obtain ⟨m, hm⟩ : ∃ m, B.length = m := ⟨_, rfl⟩
  rw [hm] at hfp
  have HF := Aside0.mk hfp
  have HC1 := Aside0.mk hc
  clear hk hB hm hfp hmo
  have HC := Aside0.mk hC
  have HQ := Aside0.mk (Blk.new_ (W := w) (o := .cells (rqC x A x.f8.f6.length c) 27)).out
  have HB0 := Aside0.mk (below_alloc (Below.refl w.heap.size w) (.cells (rqC x A x.f8.f6.length c) 27))
  obtain ⟨x0, x1, x2, x3, x4, x5, x6, x7, x8, x9, x10, x11, x12, x13, x14⟩ := rq_cells HQ.out
  have HY := Aside0.mk hy
  clear hC hy
  go_enter Try.func7, Try.ntmps7
  go_wp2_with fail
  refine (great_calls x A c _ false (Kd.C_below HC.out HB0.out) hc hg).mono ?_
  rintro e w1 ⟨rfl, hb⟩
  have HB1 := Aside0.mk (below_step HB0.out hb)
  have HQ1 := Aside0.mk ((hb.block _ (Array.getElem?_eq_some_iff.1 HQ.out).1).trans HQ.out)
  clear hb x0 x1 x2 x3 x4 x5 x6 x7 x8 x9 x10 x11 x12 x13 x14 HQ HB0
  obtain ⟨x0, x1, x2, x3, x4, x5, x6, x7, x8, x9, x10, x11, x12, x13, x14⟩ := rq_cells HQ1.out
  go_wp2_with fail
  refine (PutRequest_go x A c _ (Kd.C_below HC.out HB1.out) hc HY.out.ok).mono ?_
  rintro e w2 ⟨v2, rfl, hr2, hb⟩
  have HB2 := Aside0.mk (below_step HB1.out hb)
  have HQ2 := Aside0.mk ((hb.block _ (Array.getElem?_eq_some_iff.1 HQ1.out).1).trans HQ1.out)
  rw [HM.out] at hr2 ⊢
  dsimp only
  obtain ⟨Ap, cp, rfl⟩ := Kd.R_slice hr2
  have C2 := Aside0.mk (Kd.R_reads' hr2).2.2
  have LAp := Aside0.mk (Kd.R_reads' hr2).2.1
  rw [HF.out.len] at LAp ⊢
  clear hb hr2 x0 x1 x2 x3 x4 x5 x6 x7 x8 x9 x10 x11 x12 x13 x14 HQ1 HB1
  go_wp2_with fail
  refine (bget x 0 Ap cp m B HF.out.len w2 C2.out LAp.out HF.out.bytes (by have := HF.out.top; omega) HF.out.got).mono ?_
  rintro e w3 ⟨Aq, cq, rfl, hr, hb⟩
  have HB3 := Aside0.mk (below_step HB2.out hb)
  have HQ3 := Aside0.mk ((hb.block _ (Array.getElem?_eq_some_iff.1 HQ2.out).1).trans HQ2.out)
  have C3 := Aside0.mk (Kd.C_below C2.out hb)
  have RQ3 := Aside0.mk (Kd.R_reads' hr).2.2
  have LQ := Aside0.mk (Kd.R_reads' hr).2.1
  clear hr hb C2 HB2 HQ2
  have hal := below_alloc (Below.refl w3.heap.size w3) (.cells (rqC x Aq x.f8.f6.length cq) 27)
  have XQ4 := Aside0.mk (heap_new w3 (.cells (rqC x Aq x.f8.f6.length cq) 27))
  have HQ4 := Aside0.mk ((hal.block _ (Array.getElem?_eq_some_iff.1 HQ3.out).1).trans HQ3.out)
  have RQ4 := Aside0.mk (Kd.C_below RQ3.out hal)
  have C4 := Aside0.mk (Kd.C_below C3.out hal)
  have HB4 := Aside0.mk (below_step HB3.out hal)
  clear hal RQ3 C3 HB3 HQ3
  obtain ⟨e1, t2⟩ := Go.Proofs.Ytanjkhdagegapaa.Ext.cut_to .i64 (A := Ap) (c := cp) (xs := B) (b := m - 1) (by rw [HF.out.len]; omega) (by rw [HF.out.len]; exact LAp.out) ((m : Int) - 1) (by have := HF.out.low; omega)
  have hw : IntKind.i64.wrap ((m : Int) - 1) = (m : Int) - 1 := by have := HF.out.low; have := HF.out.top; rw [IntKind.wrap_i64]; omega
  have hmax : (1 : Int) < (m : Int) := by have := HF.out.low; omega
  have HL1 : Aside0 ((B.take (m - 1)).length = m - 1) := ⟨by rw [List.length_take, HF.out.len]; omega⟩
  rw [HF.out.len] at e1
  go_wp2_with fail
  obtain ⟨w4, hwx⟩ : ∃ W, w3.alloc (.cells (rqC x Aq x.f8.f6.length cq) 27) = W := ⟨_, rfl⟩
  rw [hwx] at XQ4 HQ4 RQ4 C4 HB4 ⊢
  obtain ⟨bq, hbx⟩ : ∃ b, w3.heap.size = b := ⟨_, rfl⟩
  rw [hbx] at XQ4 ⊢
  clear hwx hbx
  refine (bget rqNil 21 Ap cp (m - 1) (B.take (m - 1)) HL1.out w4 (t2 w4 C4.out) (by have := LAp.out; omega) (fun x hx => HF.out.bytes x (List.mem_of_mem_take hx)) (by have := HF.out.top; omega) HF.out.less).mono ?_
  rintro e w5 ⟨yA, yc, rfl, hr, hb⟩
  have HB5 := Aside0.mk (below_step HB4.out hb)
  have C5 := Aside0.mk (Kd.C_below C4.out hb)
  have XQ5 := Aside0.mk ((hb.block _ (Array.getElem?_eq_some_iff.1 XQ4.out).1).trans XQ4.out)
  have HQ5 := Aside0.mk ((hb.block _ (Array.getElem?_eq_some_iff.1 HQ4.out).1).trans HQ4.out)
  have RQ5 := Aside0.mk (Kd.C_below RQ4.out hb)
  clear hr hb e1 t2 hw hmax HL1 HB4 C4 XQ4 HQ4 RQ4
  have hal := below_alloc (Below.refl w5.heap.size w5) (.cells (rqC rqNil yA rqNil.f8.f6.length yc) 27)
  have HB6 := Aside0.mk (below_step HB5.out hal)
  have C6 := Aside0.mk (Kd.C_below C5.out hal)
  have XQ6 := Aside0.mk ((hal.block _ (Array.getElem?_eq_some_iff.1 XQ5.out).1).trans XQ5.out)
  have HQ6 := Aside0.mk ((hal.block _ (Array.getElem?_eq_some_iff.1 HQ5.out).1).trans HQ5.out)
  have RQ6 := Aside0.mk (Kd.C_below RQ5.out hal)
  have HMl := Aside0.mk HF.out.len
  have HT := Aside0.mk HF.out.top
  clear hal HB5 C5 XQ5 HQ5 RQ5
  go_wp2_with (first
    | (at_builtin; rw [← size_alloc w5 (.cells (rqC rqNil yA rqNil.f8.f6.length yc) 27)]; generalize w5.alloc (.cells (rqC rqNil yA rqNil.f8.f6.length yc) 27) = w6 at HB6 C6 XQ6 HQ6 RQ6 ⊢; refine Kd.R_append_row (Value.int .u8) (0 : Int) (w0 := w6) w6.heap.size rfl (.tmp 44) (.tmp 45) 29 5 (.int .u8 0) 1 rfl Try.underlying29 infoU8 rfl (by decide) (.slice (some ⟨w6.heap.size, 0, none⟩) 0 0) [] B Ap m cp (fun k => w6.heap.size ≤ k) rfl rfl (fun k hk => by simp at hk; omega) (R_empty w6 _ _ (Nat.le_refl _) (Nat.le_refl _)) (by have := Kd.C_alloc C6.out (Obj.cells #[] 5); rw [HMl.out] at this; exact this) (below_alloc (Below.refl _ _) _) (by simp) (by have := HT.out; have := HMl.out; simp; omega) ?_; intro v8 w8' ho hb hg hat; simp only [List.nil_append] at ho; obtain ⟨Av, cv, ev⟩ := Kd.R_slice ho; subst ev; have HO := Aside0.mk ho; have HBx := Aside0.mk hb; clear ho hb hg hat)
    | (at_builtin; refine Kd.R_append_row (Value.int .u8) (0 : Int) (w0 := w6) w6.heap.size rfl (.tmp 46) (.tmp 48) 29 5 (.int .u8 0) 1 rfl Try.underlying29 infoU8 rfl (by decide) (.slice Av B.length cv) B [more] (some ⟨w8'.heap.size, 0, none⟩) 1 1 (fun k => w6.heap.size ≤ k) rfl rfl (fun k hk => Nat.le_trans HBx.out.size (by rw [size_alloc] at hk; omega)) (Kd.R_below HO.out (below_alloc (Below.refl _ _) _)) (C_block (xs := [more]) (heap_new _ _) rfl (by simp)) (below_alloc HBx.out _) (Nat.le_trans HBx.out.size (by rw [size_alloc]; omega)) (by have := HT.out; have := HMl.out; simp; omega) ?_; intro v9 w7 ho hb hg hat; obtain ⟨Ai, ci, ev⟩ := Kd.R_slice ho; subst ev; have HI := Aside0.mk (Kd.R_reads' ho); have HBy := Aside0.mk hb; clear ho hb hg hat))
  have hl9 : (B ++ [more]).length = B.length + 1 := by simp
  have C9 := Aside0.mk HI.out.2.2
  have L9 := Aside0.mk HI.out.2.1
  rw [hl9] at L9
  have B9 : ∀ x ∈ B ++ [more], IsByte x := fun x hx => by
    rcases List.mem_append.1 hx with h | h
    · exact HF.out.bytes x h
    · rw [List.mem_singleton.1 h]; exact HF.out.mbyte
  have HB7 := Aside0.mk (below_step HB6.out HBy.out)
  have XQ7 := Aside0.mk ((HBy.out.block _ (Array.getElem?_eq_some_iff.1 XQ6.out).1).trans XQ6.out)
  have HQ7 := Aside0.mk ((HBy.out.block _ (Array.getElem?_eq_some_iff.1 HQ6.out).1).trans HQ6.out)
  have RQ7 := Aside0.mk (Kd.C_below RQ6.out HBy.out)
  clear HB6 C6 XQ6 HQ6 RQ6 HO HBx HBy HI
  refine (bget rqNil 21 Ai ci (B.length + 1) (B ++ [more]) hl9 w7 C9.out L9.out B9 (by have := HT.out; have := HMl.out; omega) HF.out.plus).mono ?_
  rintro e w8 ⟨zA, zc, rfl, hr, hb⟩
  have HB8 := Aside0.mk (below_step HB7.out hb)
  have XQ8 := Aside0.mk ((hb.block _ (Array.getElem?_eq_some_iff.1 XQ7.out).1).trans XQ7.out)
  have HQ8 := Aside0.mk ((hb.block _ (Array.getElem?_eq_some_iff.1 HQ7.out).1).trans HQ7.out)
  have RQ8 := Aside0.mk (Kd.C_below RQ7.out hb)
  clear hr hb HB7 XQ7 HQ7 RQ7 C9 L9 B9 hl9 HMl HT
  have HAL := Aside0.mk (below_alloc (Below.refl w8.heap.size w8) (.cells (rqC rqNil zA rqNil.f8.f6.length zc) 27))
  have HB9 := Aside0.mk (below_step HB8.out HAL.out)
  have XQ9 := Aside0.mk ((HAL.out.block _ (Array.getElem?_eq_some_iff.1 XQ8.out).1).trans XQ8.out)
  have HQ9 := Aside0.mk ((HAL.out.block _ (Array.getElem?_eq_some_iff.1 HQ8.out).1).trans HQ8.out)
  have KS := Aside0.mk (same_true x A Aq c cq (w8.alloc (.cells (rqC rqNil zA rqNil.f8.f6.length zc) 27)) (Kd.C_below HC.out HB9.out) HC1.out (Kd.C_below RQ8.out HAL.out) LQ.out HY.out.len)
  obtain ⟨x0, x1, x2, x3, x4, x5, x6, x7, x8, x9, x10, x11, x12, x13, x14⟩ := rq_cells HQ9.out
  obtain ⟨z0, z1, z2, z3, z4, z5, z6, z7, z8, z9, z10, z11, z12, z13, z14⟩ := rq_cells XQ9.out
  go_wp2_with fail
  refine KS.out.mono ?_
  rintro e w10 ⟨rfl, hb⟩
  have HB10 := Aside0.mk (below_step HB9.out hb)
  clear hb KS x0 x1 x2 x3 x4 x5 x6 x7 x8 x9 x10 x11 x12 x13 x14 z0 z1 z2 z3 z4 z5 z6 z7 z8 z9 z10 z11 z12 z13 z14 XQ9 HQ9 HB9 HAL
  go_wp2_with fail
  refine (goes_true _).mono ?_
  rintro e w11 ⟨rfl, hb⟩
  have HB11 := Aside0.mk (below_step HB10.out hb)
  clear hb
  go_wp2_with fail
  go_ret
  exact ⟨rfl, HB11.out⟩
set_option maxRecDepth 100000 in
theorem MsgBack.walk {H : Type} {enc : TypeId × Value → H} (more : Int) {W : World} {v : Value} {d0 : DataW H} {p0 : List MemPlace} {base : Nat} (w1 : (Lit.int .u8 more).wf = true) (hv : Value.okWide Try.prog W .any base 27 v)
    (h0 : DataW.Trod enc Try.prog W 0 (fun _ => true) true 27 v d0 p0) : Calls Try.prog 7 #[v, .int .u8 more] W fun e w' => e = .returned (.bool true) ∧ Below W.heap.size W w' := by
  have hmo : IsByte more := wf_byteO _ w1
  obtain ⟨x, A, c, rfl, r0, r1, r3, r4, rp, rq, hc, ht, hC⟩ := request_come hv h0
  by_cases g1 : (x.f2.size : Int) > 100
  · exact mback_great x A c more W hC hc (by unfold quitrentlaw25_great.f; rw [if_pos g1])
  by_cases g2 : (x.f7.size : Int) > 200
  · exact mback_great x A c more W hC hc (by unfold quitrentlaw25_great.f; rw [if_neg g1, if_pos g2])
  by_cases g3 : (x.f8.f6.length : Int) > 10
  · exact mback_great x A c more W hC hc (by unfold quitrentlaw25_great.f; rw [if_neg g1, if_neg g2, decide_eq_true g3])
  have hg : quitrentlaw25_great.f x.f0 x.f1 x.f2 x.f3 x.f4 x.f5 x.f6 x.f7 x.f8.f0 x.f8.f1 x.f8.f2 x.f8.f3 x.f8.f4 x.f8.f5 x.f8.f6 = some false := by
    unfold quitrentlaw25_great.f; rw [if_neg g1, if_neg g2, decide_eq_false g3]
  have hy : YOk x := ⟨⟨r0, r1, by omega, r3, by omega⟩, by unfold PlR; omega, by omega⟩
  by_cases hk : (mput x).2 = 0
  · exact mback_yes x A c more W hC hc hy hmo hk hg
  · exact mback_no x A c more W hC hc hy hk hg
end Go.Proofs.Ytanjkhdagegapaa.Ext
