/- quitrentref14's Posting, proved by walking its code (printed by mkref.py). -/
import Derived.Test.YtdfmganmchmbjaaEExt
namespace Go.Proofs.Ytdfmganmchmbjaa.Ext
open Go.RowKit Go.Proofs.YtdfmganmchmbjaaW.PrintWords Go.Proofs.YtdfmganmchmbjaaW.PrintLast Go.Proofs.YtdfmganmchmbjaaW.PrintMore Go.Proofs.YtdfmganmchmbjaaW.Hand Go.Proofs.Ytdfmganmchmbjaa.PZ
set_option linter.unusedVariables false
set_option linter.unusedSimpArgs false
theorem number_v (x : Int) (w : World) : Calls Try.prog 33 #[.int .i64 x] w fun e w' => ∃ v : Value, e = .returned v ∧ Kd.R (Kd.int .u8) 5 w' w.heap.size (fun _ => True) v (beN 8 (x % top64)) ∧ Below w.heap.size w w' := by
  have k1 := Aside0.mk (Number_calls (x % top64) 8 8 rfl w (by decide) (top_pos x).1)
  have ec := u64_conv x
  go_enter Try.func33, Try.ntmps33
  go_wp2_with fail
  refine k1.out.mono ?_
  rintro e w1 ⟨v1, rfl, hV, hb⟩
  have V1 := Aside0.mk hV
  have HB := Aside0.mk hb
  clear hV hb k1
  go_wp2_with fail
  go_ret
  exact ⟨v1, rfl, V1.out, HB.out⟩
theorem wrap_mod (x : Int) : IntKind.i64.wrap x % top64 = x % top64 := by unfold top64; rw [IntKind.wrap_i64]; omega
def q0 (a0 : Int) : List Int := beN 8 (a0 % top64)
set_option maxRecDepth 100000 in
set_option maxHeartbeats 6400000 in
theorem rposting_calls (a0 a1 a2 : Int) (A : Option Addr) (c : Nat) (l : List S37) (w : World) (hC : Kd.C k37 w A l.length l) (h0 : 0 ≤ a0 ∧ a0 < top64) (hl : l.length ≤ 16) (hany : l.any pbad = false) :
    Calls Try.prog 14 #[.agg #[.int .u64 a0, .int .i64 a1, .int .u32 a2, .slice A l.length c]] w fun e w' => ∃ v : Value, e = .returned v ∧ Kd.R (Kd.int .u8) 5 w' w.heap.size (fun _ => True) v (epost a0 a1 a2 l) ∧ Below w.heap.size w w' := by
  have HC := Aside0.mk hC
  have HANY := Aside0.mk hany
  have hb0 : beN 8 (IntKind.i64.wrap a0 % top64) = beN 8 a0 := by rw [wrap_mod, Int.emod_eq_of_lt h0.1 h0.2]
  have hb2 : beN 8 (IntKind.i64.wrap a2 % top64) = beN 8 (a2 % top64) := by rw [wrap_mod]
  have k0 := Aside0.mk (fun w => number_v (IntKind.i64.wrap a0) w)
  have k2 := Aside0.mk (fun w => number_v (IntKind.i64.wrap a2) w)
  rw [hb0] at k0
  rw [hb2] at k2
  obtain ⟨b0, hw0⟩ : ∃ b, IntKind.i64.wrap a0 = b := ⟨_, rfl⟩
  obtain ⟨b2, hw2⟩ : ∃ b, IntKind.i64.wrap a2 = b := ⟨_, rfl⟩
  rw [hw0] at k0
  rw [hw2] at k2
  clear hC hany hb0 hb2 h0
  go_enter Try.func14, Try.ntmps14
  go_wp2_with fail
  have HX : Aside0 (Blk (w.alloc (Obj.cells #[.int .u64 a0, .int .i64 a1, .int .u32 a2, .slice A l.length c] 26)) w.heap.size (Obj.cells #[.int .u64 a0, .int .i64 a1, .int .u32 a2, .slice A l.length c] 26 (0, 0))) := ⟨Blk.new_⟩
  have HW : Aside0 (Below w.heap.size w (w.alloc (Obj.cells #[.int .u64 a0, .int .i64 a1, .int .u32 a2, .slice A l.length c] 26))) := ⟨below_alloc (Below.refl _ _) _⟩
  obtain ⟨wa, hwa⟩ : ∃ W, w.alloc (Obj.cells #[.int .u64 a0, .int .i64 a1, .int .u32 a2, .slice A l.length c] 26) = W := ⟨_, rfl⟩
  obtain ⟨q, hq⟩ : ∃ q, w.heap.size = q := ⟨_, rfl⟩
  rw [hwa] at HX HW ⊢
  have HCa := Aside0.mk (Kd.C_below HC.out HW.out)
  rw [hq] at HX HW ⊢
  have XB : Aside0 (∀ W : World, Below wa.heap.size wa W → W.cell? ⟨q, 1, none⟩ = some (.int .i64 a1) ∧ W.cell? ⟨q, 2, none⟩ = some (.int .u32 a2) ∧ W.cell? ⟨q, 3, none⟩ = some (.slice A l.length c)) := ⟨fun W hW => by
    have HX2 := HX.out.below hW
    exact ⟨(HX2.cell 1).trans rfl, (HX2.cell 2).trans rfl, (HX2.cell 3).trans rfl⟩⟩
  have FIN : Aside0 (∀ W : World, Below wa.heap.size wa W → Below q w W) := ⟨fun W hW => HW.out.trans (below_weak_ hW (Nat.le_of_lt HX.out.lt))⟩
  have hqa : q ≤ wa.heap.size := Nat.le_of_lt HX.out.lt
  have HQA := Aside0.mk hqa
  clear hwa HX HC
  refine (k0.out wa).mono ?_
  rintro e w1 ⟨vo, rfl, hV, hb⟩
  have VO := Aside0.mk hV
  have HBo := Aside0.mk hb
  clear hV hb k0
  obtain ⟨x1, x2, x3⟩ := XB.out w1 HBo.out
  go_wp2_with fail
  refine (number_v a1 _).mono ?_
  rintro e wn0 ⟨vn0, rfl, hV, hb⟩
  have VN := Aside0.mk hV
  have VO' := Aside0.mk (Kd.R_below VO.out hb)
  have HBo' := Aside0.mk (below_step HBo.out hb)
  clear hV hb VO HBo x1 x2 x3
  have VO := VO'
  have HBo := HBo'
  clear VO' HBo'
  go_wp2_with (at_builtin; obtain ⟨An, cn, en⟩ := Kd.R_slice VN.out; subst en; refine Kd.R_append_row (Value.int .u8) (0 : Int) (w0 := wa) wa.heap.size rfl (.tmp 9) (.tmp 12) 31 5 (.int .u8 0) 1 rfl Try.underlying31 infoU8 rfl (by decide) vo (beN 8 a0) (beN 8 (a1 % top64)) An ((beN 8 (a1 % top64))).length cn (fun _ => True) rfl rfl (fun _ _ => trivial) VO.out (Kd.R_reads' VN.out).2.2 HBo.out HBo.out.size (by simp [beN_length]) ?_; intro vp0 w_vp0 ho1 hb1 hg1 hat1; have V_vp0 := Aside0.mk ho1; have HB_vp0 := Aside0.mk hb1; clear ho1 hb1 hg1 hat1; obtain ⟨x1, x2, x3⟩ := XB.out w_vp0 HB_vp0.out)
  have VO := V_vp0
  have HBo := HB_vp0
  clear V_vp0 HB_vp0 VN
  refine (k2.out _).mono ?_
  rintro e wn1 ⟨vn1, rfl, hV, hb⟩
  have VN := Aside0.mk hV
  have VO' := Aside0.mk (Kd.R_below VO.out hb)
  have HBo' := Aside0.mk (below_step HBo.out hb)
  clear hV hb VO HBo x1 x2 x3
  have VO := VO'
  have HBo := HBo'
  clear VO' HBo'
  go_wp2_with (at_builtin; obtain ⟨An, cn, en⟩ := Kd.R_slice VN.out; subst en; refine Kd.R_append_row (Value.int .u8) (0 : Int) (w0 := wa) wa.heap.size rfl (.tmp 14) (.tmp 18) 31 5 (.int .u8 0) 1 rfl Try.underlying31 infoU8 rfl (by decide) vp0 ((beN 8 a0) ++ beN 8 (a1 % top64)) (beN 8 (a2 % top64)) An ((beN 8 (a2 % top64))).length cn (fun _ => True) rfl rfl (fun _ _ => trivial) VO.out (Kd.R_reads' VN.out).2.2 HBo.out HBo.out.size (by simp [beN_length]) ?_; intro vp1 w_vp1 ho1 hb1 hg1 hat1; have V_vp1 := Aside0.mk ho1; have HB_vp1 := Aside0.mk hb1; clear ho1 hb1 hg1 hat1; obtain ⟨x1, x2, x3⟩ := XB.out w_vp1 HB_vp1.out)
  have VO := V_vp1
  have HBo := HB_vp1
  clear V_vp1 HB_vp1 VN
  refine (number_v (l.length : Int) _).mono ?_
  rintro e wn2 ⟨vn2, rfl, hV, hb⟩
  have VN := Aside0.mk hV
  have VO' := Aside0.mk (Kd.R_below VO.out hb)
  have HBo' := Aside0.mk (below_step HBo.out hb)
  clear hV hb VO HBo x1 x2 x3
  have VO := VO'
  have HBo := HBo'
  clear VO' HBo'
  go_wp2_with (at_builtin; obtain ⟨An, cn, en⟩ := Kd.R_slice VN.out; subst en; refine Kd.R_append_row (Value.int .u8) (0 : Int) (w0 := wa) wa.heap.size rfl (.tmp 20) (.tmp 24) 31 5 (.int .u8 0) 1 rfl Try.underlying31 infoU8 rfl (by decide) vp1 (((beN 8 a0) ++ beN 8 (a1 % top64)) ++ beN 8 (a2 % top64)) (beN 8 ((l.length : Int) % top64)) An ((beN 8 ((l.length : Int) % top64))).length cn (fun _ => True) rfl rfl (fun _ _ => trivial) VO.out (Kd.R_reads' VN.out).2.2 HBo.out HBo.out.size (by simp [beN_length]) ?_; intro vp2 w_vp2 ho1 hb1 hg1 hat1; have V_vp2 := Aside0.mk ho1; have HB_vp2 := Aside0.mk hb1; clear ho1 hb1 hg1 hat1; obtain ⟨x1, x2, x3⟩ := XB.out w_vp2 HB_vp2.out)
  have VO := V_vp2
  have HBo := HB_vp2
  clear V_vp2 HB_vp2 VN
  have VO0 : Aside0 (Kd.R (Kd.int .u8) 5 w_vp2 wa.heap.size (fun _ => True) vp2 (phead a0 a1 a2 l.length ++ ((l.take 0).map pbytes).flatten)) := ⟨by have e : phead a0 a1 a2 l.length ++ ((l.take 0).map pbytes).flatten = ((((beN 8 a0) ++ beN 8 (a1 % top64)) ++ beN 8 (a2 % top64)) ++ beN 8 ((l.length : Int) % top64)) := (by simp [phead]); rw [e]; exact VO.out⟩
  clear VO x1 x2 x3
  go_loopw [3, 4] (fun o i wr => ∃ j : Nat, j ≤ l.length ∧ i = .int .i64 j ∧ Aside0 (Kd.R (Kd.int .u8) 5 wr wa.heap.size (fun _ => True) o (phead a0 a1 a2 l.length ++ ((l.take j).map pbytes).flatten)) ∧ Aside0 (Below wa.heap.size wa wr)) (fun _ i _ => l.length - (intOf i).toNat)
  case atStart => exact ⟨0, by omega, by rfl, VO0, HBo⟩
  case round =>
    obtain ⟨j, hj, rfl, HVj, HBj⟩ := hrel
    obtain ⟨x1, x2, x3⟩ := XB.out wr HBj.out
    by_cases hlt : j < l.length
    · obtain ⟨ad, e1, hx0, hx1⟩ := at_T37 (Kd.C_below HCa.out HBj.out) j (by omega) (by omega)
      have HCj := Kd.C_below HCa.out HBj.out
      cases e1
      have hst := map_take l z37 pbytes j hlt
      have hrd : rd_T37 l (j : Int) = l.getD j z37 := rfl
      have hgood : pbad (rd_T37 l (j : Int)) = false := by
        rw [hrd, List.getD_eq_getElem?_getD, List.getElem?_eq_getElem hlt]
        exact any_mem HANY.out (List.getElem_mem hlt)
      have hLj := parts_length (l.take j) (any_take_false HANY.out j)
      rw [← hrd] at hst
      obtain ⟨⟨f0, f1⟩, ht⟩ : ∃ t, rd_T37 l (j : Int) = t := ⟨_, rfl⟩
      have AT2 : Aside0 (∀ W : World, Below wa.heap.size wa W → W.cell? ⟨(ad.add (j * 2)).block, (ad.add (j * 2)).off + 1, none⟩ = some (.int .i64 f1)) := ⟨fun W hW => by
        obtain ⟨ad', e1, _, hy⟩ := at_T37 (Kd.C_below HCa.out hW) j (by omega) (by omega)
        cases e1
        rw [ht] at hy
        simpa only [Int.toNat_natCast] using hy⟩
      rw [ht] at hx0 hx1 hst hgood
      have hsz := (pbad_size hgood).2.1
      simp only [Int.toNat_natCast] at hx0 hx1 hsz
      have HL : Aside0 ((phead a0 a1 a2 l.length ++ ((l.take j).map pbytes).flatten).length ≤ 10000) := ⟨by rw [List.length_append, phead_length]; rw [List.length_take] at hLj; omega⟩
      have HST := Aside0.mk hst
      have HSZ := Aside0.mk hsz
      have L8 : Aside0 ((beN 4 (f0.size : Int) ++ bytesOf f0).length = 4 + f0.size) := ⟨by rw [List.length_append, beN_length, bytesOf_length]⟩
      have kcs : ∀ W : World, (convert 9 31 (.string f0)).run Try.prog W = .ok (.slice (some ⟨W.heap.size, 0, none⟩) f0.size (grownCap W f0.size 0 5)) (Lib.bytesWorld W 5 f0) := fun W => Lib.run_convert_string_bytes (P := Try.prog) W 9 31 5 f0 Try.underlying9 Try.underlying31 Try.underlying5
      have ew9 : IntKind.i64.wrap ((j : Int) + 1) = (j : Int) + 1 := by rw [IntKind.wrap_i64]; omega
      have hj1 : (j : Int) < (l.length : Int) := by omega
      have kt : Aside0 (Calls Try.prog 34 #[.slice (some ⟨wr.heap.size, 0, none⟩) f0.size (grownCap wr f0.size 0 5)] (Lib.bytesWorld wr 5 f0) fun e w' => ∃ v0 : Value, e = .returned v0 ∧ Kd.R (Kd.int .u8) 5 w' (Lib.bytesWorld wr 5 f0).heap.size (fun _ => True) v0 (beN 4 (f0.size : Int) ++ bytesOf f0) ∧ Below (Lib.bytesWorld wr 5 f0).heap.size (Lib.bytesWorld wr 5 f0) w') := ⟨by
        have := RText_calls (some ⟨wr.heap.size, 0, none⟩) (grownCap wr f0.size 0 5) (bytesOf f0) (Lib.bytesWorld wr 5 f0) (C_str wr 5 f0 (by omega)) (by rw [bytesOf_length]; omega)
        rw [bytesOf_length] at this
        exact this⟩
      clear ht hrd hst hgood hLj hsz HCj
      go_wp2_with fail
      refine kt.out.mono ?_
      rintro e wt ⟨vt, rfl, hV, hb⟩
      have VN := Aside0.mk hV
      have hbb := below_step (below_step HBj.out (str_below wr 5 f0)) hb
      have VO := Aside0.mk (Kd.R_below (Kd.R_below HVj.out (str_below wr 5 f0)) hb)
      have HBo := Aside0.mk hbb
      clear hV hb hbb kt
      go_wp2_with (at_builtin; obtain ⟨An, cn, en⟩ := Kd.R_slice VN.out; subst en; refine Kd.R_append_row (Value.int .u8) (0 : Int) (w0 := wa) wa.heap.size rfl (.tmp 33) (.tmp 41) 31 5 (.int .u8 0) 1 rfl Try.underlying31 infoU8 rfl (by decide) u3 (phead a0 a1 a2 l.length ++ ((l.take j).map pbytes).flatten) (beN 4 (f0.size : Int) ++ bytesOf f0) An ((beN 4 (f0.size : Int) ++ bytesOf f0)).length cn (fun _ => True) rfl rfl (fun _ _ => trivial) VO.out (Kd.R_reads' VN.out).2.2 HBo.out HBo.out.size (by have := HL.out; have := HSZ.out; have := L8.out; omega) ?_; intro vq w_vq ho1 hb1 hg1 hat1; have V_vq := Aside0.mk ho1; have HB_vq := Aside0.mk hb1; clear ho1 hb1 hg1 hat1; obtain ⟨x1, x2, x3⟩ := XB.out w_vq HB_vq.out; have at2 := AT2.out w_vq HB_vq.out)
      clear VO HBo VN x1 x2 at2
      refine (number_v f1 _).mono ?_
      rintro e wn ⟨vn, rfl, hV, hb⟩
      have VN := Aside0.mk hV
      have VO := Aside0.mk (Kd.R_below V_vq.out hb)
      have HBo := Aside0.mk (below_step HB_vq.out hb)
      clear hV hb V_vq HB_vq
      have LQ : Aside0 ((phead a0 a1 a2 l.length ++ ((l.take j).map pbytes).flatten ++ (beN 4 (f0.size : Int) ++ bytesOf f0)).length ≤ 20000) := ⟨by have := HL.out; have := HSZ.out; have := L8.out; rw [List.length_append]; omega⟩
      go_wp2_with (at_builtin; obtain ⟨An, cn, en⟩ := Kd.R_slice VN.out; subst en; refine Kd.R_append_row (Value.int .u8) (0 : Int) (w0 := wa) wa.heap.size rfl (.tmp 43) (.tmp 50) 31 5 (.int .u8 0) 1 rfl Try.underlying31 infoU8 rfl (by decide) vq (phead a0 a1 a2 l.length ++ ((l.take j).map pbytes).flatten ++ (beN 4 (f0.size : Int) ++ bytesOf f0)) (beN 8 (f1 % top64)) An ((beN 8 (f1 % top64))).length cn (fun _ => True) rfl rfl (fun _ _ => trivial) VO.out (Kd.R_reads' VN.out).2.2 HBo.out HBo.out.size (by have := LQ.out; rw [beN_length]; omega) ?_; intro vr w_vr ho1 hb1 hg1 hat1; have V_vr := Aside0.mk ho1; have HB_vr := Aside0.mk hb1; clear ho1 hb1 hg1 hat1; obtain ⟨x1, x2, x3⟩ := XB.out w_vr HB_vr.out)
      refine ⟨⟨j + 1, by omega, by simp, ⟨?_⟩, HB_vr⟩, by simp [intOf]; omega⟩
      have h1 := V_vr.out
      rw [HST.out, show pbytes ⟨f0, f1⟩ = beN 4 (f0.size : Int) ++ bytesOf f0 ++ beN 8 (f1 % top64) from rfl]
      rw [List.append_assoc, List.append_assoc] at h1
      exact h1
    · obtain rfl : j = l.length := by omega
      rw [List.take_length] at HVj
      go_wp2_with fail
      go_ret
      exact ⟨_, rfl, by rw [hq]; exact Kd.R_lower HVj.out HQA.out, by rw [hq]; exact FIN.out _ HBj.out⟩
end Go.Proofs.Ytdfmganmchmbjaa.Ext
