/- quitrentref04's May and Frame, proved by walking their code. -/
import Derived.Test.YtddajglkefpjdaaFExt
import Derived.Lib.SmallJoins
import Derived.Laws.DeepStrings4
import Derived.Test.YtddajglkefpjdaaNum
import Derived.Deep.RegionHeld3
import Derived.Lib.ConvBytes
namespace Go.Proofs.Ytddajglkefpjdaa.Ext
open Go.RowKit Go.Proofs.YtddajglkefpjdaaW.PrintWords Go.Proofs.YtddajglkefpjdaaW.PrintLast Go.Proofs.YtddajglkefpjdaaW.PrintMore Go.Proofs.YtddajglkefpjdaaW.Hand
set_option linter.unusedVariables false
theorem fstr_app (a b : List Int) : strOfNums (a ++ b) = strOfNums a ++ strOfNums b := by
  have h : (strOfNums (a ++ b)).data.toList = (strOfNums a ++ strOfNums b).data.toList := by
    rw [Go.Joins.data_append]; simp [strOfNums]
  generalize strOfNums (a ++ b) = x at *
  generalize strOfNums a ++ strOfNums b = y at *
  obtain ⟨⟨x⟩⟩ := x
  obtain ⟨⟨y⟩⟩ := y
  simpa using h
theorem fstr_own {W : World} {base : Nat} {ok : Nat → Prop} {v : Value} {xs : List Int} (h : Kd.R (Kd.int .u8) 5 W base ok v xs) : (convert 23 9 v).run Try.prog W = .ok (.string (strOfNums xs)) W :=
  own_string (P := Try.prog) Try.underlying23 Try.underlying5 Try.underlying9 (Kd.own_of_R h)
theorem fbytesOf_str (l : List Int) (h : ∀ x ∈ l, IsByte x) : bytesOf (strOfNums l) = l := by
  unfold bytesOf
  rw [strOfNums_data, List.map_map]
  conv => rhs; rw [← List.map_id l]
  apply List.map_congr_left
  intro x hx
  have := h x hx
  unfold IsByte at this
  simp
  omega
theorem strOf_inj {x y : List Int} (hx : ∀ c ∈ x, IsByte c) (hy : ∀ c ∈ y, IsByte c) (h : strOfNums x = strOfNums y) : x = y := by
  have e := congrArg bytesOf h
  rwa [fbytesOf_str x hx, fbytesOf_str y hy] at e
theorem str_part (l : List Int) (a b : Nat) (h : b ≤ l.length) : (strOfNums l).extract a b = strOfNums ((l.drop a).take (b - a)) := by
  have e : ((strOfNums l).extract a b).data = (strOfNums ((l.drop a).take (b - a))).data := by
    rw [ByteArray.data_extract]
    apply Array.toList_inj.1
    rw [Array.toList_extract, strOfNums_data, strOfNums_data, List.extract_eq_take_drop, ← List.map_drop, ← List.map_take]
  generalize (strOfNums l).extract a b = x at *
  generalize strOfNums ((l.drop a).take (b - a)) = y at *
  obtain ⟨x⟩ := x
  obtain ⟨y⟩ := y
  simpa using e
theorem may_calls (at_ stamp n : Int) (w : World) : Calls Try.prog 9 #[.int .i64 at_, .int .u64 stamp, .int .i64 n] w fun e w' => e = .returned (.int .i64 (if at_ < 0 ∨ 4095 < at_ ∨ stamp = 0 then 1 else if 4011 < n then 2 else 0)) ∧ Below w.heap.size w w' := by
  go_enter Try.func9, Try.ntmps9
  by_cases h1 : at_ < 0
  · go_wp2_with fail
    go_ret
    exact ⟨rfl, Below.refl _ _⟩
  · by_cases h2 : 4095 < at_
    · go_wp2_with fail
      go_ret
      exact ⟨rfl, Below.refl _ _⟩
    · by_cases h3 : stamp = 0
      · go_wp2_with fail
        go_ret
        exact ⟨rfl, Below.refl _ _⟩
      · by_cases h4 : 4011 < n
        · go_wp2_with fail
          go_ret
          exact ⟨rfl, Below.refl _ _⟩
        · go_wp2_with fail
          go_ret
          exact ⟨rfl, Below.refl _ _⟩

def fnum8 (v : Int) : ByteArray := strOfNums (beN 8 v)
theorem fnum8_size (v : Int) : (fnum8 v).size = 8 := by unfold fnum8; rw [strOfNums_size, beN_length]
theorem ref_bytes (a : Int) (l : List Int) (h : ∀ c ∈ l, IsByte c) : (4294967295 - (refBytes 4294967295 l : Nat) : Int) = 4294967295 - ((crcBytes 4294967295 l : Nat) : Int) := by rw [refBytes_crcBytes _ _ h]
theorem region_once {P : Program} {id : Nat} {ops : Array Oper} {b : Bool} {Q : Exit → Act → World → Prop} {a : Act} {w : World} (Φ : Act → World → Prop) (h : (Code.region id ops b).wp P (NoPanic (Exit.then Φ fun _ _ _ => False)) a w) (hq : ∀ a w, Φ a w → Q .normal a w) : (Code.region id ops b).wp P Q a w :=
  Code.wp_mono (fun e a w h => by have h := NoPanic.imp e a w h; cases e <;> first | exact hq a w h | exact (h : False).elim) h
set_option maxRecDepth 100000 in
set_option maxHeartbeats 3200000 in
theorem rframe_calls (at_ kind stamp : Int) (b : List Int) (h : b.length ≤ 4011) (hb : ∀ x ∈ b, IsByte x) (ha : 0 ≤ at_ ∧ at_ < 4096) (hk : 0 ≤ kind ∧ kind < 256) (hs : 0 < stamp ∧ stamp < top64) (w : World) :
    Calls Try.prog 11 #[.int .i64 at_, .int .u8 kind, .int .u64 stamp, .string (strOfNums b)] w fun e w' => e = .returned (.string (strOfNums (fframe at_ kind stamp b))) ∧ Below w.heap.size w w' := by
  have k1 := Aside0.mk (fun w => Number_calls stamp 8 8 rfl w (by decide) (by omega))
  have k2 := Aside0.mk (fun w => Number_calls at_ 8 8 rfl w (by decide) (by omega))
  have k3 := Aside0.mk (fun w => Number_calls (b.length : Int) 8 8 rfl w (by decide) (by omega))
  have ew2 : IntKind.u64.wrap at_ = at_ := by rw [IntKind.wrap_u64]; omega
  have ew3 : IntKind.u64.wrap (b.length : Int) = (b.length : Int) := by rw [IntKind.wrap_u64]; omega
  have hsz := strOfNums_size b
  obtain ⟨BS, hBS⟩ : ∃ S, strOfNums b = S := ⟨_, rfl⟩
  rw [hBS] at hsz ⊢
  obtain ⟨S1, hS1⟩ : ∃ S, strOfNums (beN 8 stamp) = S := ⟨_, rfl⟩
  obtain ⟨S2, hS2⟩ : ∃ S, strOfNums (beN 8 at_) = S := ⟨_, rfl⟩
  obtain ⟨S3, hS3⟩ : ∃ S, strOfNums (beN 8 (b.length : Int)) = S := ⟨_, rfl⟩
  obtain ⟨SK, hSK⟩ : ∃ S, strOfNums [kind] = S := ⟨_, rfl⟩
  have z1 : S1.size = 8 := by rw [← hS1, strOfNums_size, beN_length]
  have z2 : S2.size = 8 := by rw [← hS2, strOfNums_size, beN_length]
  have z3 : S3.size = 8 := by rw [← hS3, strOfNums_size, beN_length]
  have z4 : SK.size = 1 := by rw [← hSK, strOfNums_size]; rfl
  have P1 := Aside0.mk hS1
  have P2 := Aside0.mk hS2
  have P3 := Aside0.mk hS3
  have P4 := Aside0.mk hSK
  have HBS := Aside0.mk hBS
  have ck : ∀ (W : World) (g : Nat), W.heap.size = g → (convert 23 9 (.slice (some ⟨g, 0, none⟩) 1 1)).run Try.prog (W.alloc (Obj.cells #[.int .u8 kind] 5)) = .ok (.string SK) (W.alloc (Obj.cells #[.int .u8 kind] 5)) := fun W g hg => by
    subst hg
    have := Kd.C_string (P := Try.prog) (c := 1) Try.underlying23 Try.underlying5 Try.underlying9 (C_block (xs := [kind]) (heap_new W (Obj.cells #[.int .u8 kind] 5)) rfl (by simp))
    rwa [P4.out] at this
  have hbl : (b.length : Int) ≤ 4011 := by omega
  have HD : Aside0 (S2 ++ SK ++ S3 ++ BS = strOfNums (fhead at_ kind b)) := ⟨by
    have e1 : beN 1 kind = [kind] := by
      show [kind / 256 ^ 0 % 256] = [kind]
      rw [Int.pow_zero, Int.ediv_one, Int.emod_eq_of_lt hk.1 hk.2]
    unfold fhead
    rw [fstr_app, fstr_app, fstr_app, e1, hS2, hSK, hS3, hBS]⟩
  have HFD : Aside0 (fhead at_ kind b ++ zs (4011 - b.length) = fdata at_ kind b) := ⟨rfl⟩
  have HIN := Aside0.mk (fin_eq at_ kind stamp b h)
  have HFF : Aside0 (fframe at_ kind stamp b = fsecs stamp (fin at_ kind stamp b) 8) := ⟨fpage_eq stamp _ (fin_length at_ kind stamp b h)⟩
  have HFL := Aside0.mk (fin_length at_ kind stamp b h)
  have HDB : Aside0 (∀ x ∈ beN 8 stamp ++ fdata at_ kind b, IsByte x) := ⟨fun x hx => by
    rcases List.mem_append.1 hx with hx | hx
    · exact beN_bytes 8 stamp x hx
    · rcases List.mem_append.1 hx with hx | hx
      · unfold fhead at hx
        rcases List.mem_append.1 hx with hx | hx
        · rcases List.mem_append.1 hx with hx | hx
          · rcases List.mem_append.1 hx with hx | hx
            · exact beN_bytes 8 _ x hx
            · exact beN_bytes 1 _ x hx
          · exact beN_bytes 8 _ x hx
        · exact hb x hx
      · unfold zs at hx
        obtain ⟨_, rfl⟩ := List.mem_replicate.1 hx
        unfold IsByte; omega⟩
  have HDL : Aside0 ((beN 8 stamp ++ fdata at_ kind b).length = 4036) := ⟨by rw [List.length_append, beN_length, fdata_length _ _ _ h]⟩
  clear hS1 hS2 hS3 hSK hBS hb h ha hk hs
  go_enter Try.func11, Try.ntmps11
  go_wp2_with fail
  refine (k1.out _).mono ?_
  rintro e w1 ⟨v1, rfl, hv1, hb1⟩
  have cv1 := fstr_own hv1
  rw [P1.out] at cv1
  have B1 := Aside0.mk hb1
  clear hv1 hb1 k1
  go_wp2_with fail
  clear cv1
  have K0 := Aside0.mk (below_step B1.out (below_drew (Below.refl w1.heap.size w1)))
  refine region_once (fun a W => ∃ y15 y19 y22 y28 : Value, a = { tmps := #[.int .i64 at_, .int .u8 kind, .int .u64 stamp, .string BS, undef, undef, undef, undef, .string ⟨#[]⟩, .string S1, .string (S2 ++ SK ++ S3 ++ BS), undef, undef, undef, .int .u64 stamp, y15, .string S1, .int .i64 at_, .int .u64 at_, y19, .string S2, .int .u8 kind, y22, .string SK, .string (S2 ++ SK), .string BS, .int .i64 b.length, .int .u64 b.length, y28, .string S3, .string (S2 ++ SK ++ S3), .string BS, .string (S2 ++ SK ++ S3 ++ BS), undef, undef, undef, undef, undef, undef, undef, undef, undef, undef, undef, undef, undef, undef, undef, undef, undef, undef, undef, undef, undef, undef, undef, undef, undef, undef, undef, undef, undef, undef, undef, undef, undef, undef, undef, undef, undef, undef, undef, undef, undef, undef, undef], defers := [] } ∧ Below w.heap.size w W) ?_ ?_
  · have ckd : ∀ (W : World) (g : Nat), W.heap.size = g → (convert 23 9 (.slice (some ⟨g, 0, none⟩) 1 1)).run Try.prog (W.alloc (Obj.cells #[.int .u8 kind] 5)).drew = .ok (.string SK) (W.alloc (Obj.cells #[.int .u8 kind] 5)).drew := fun W g hg => by
      subst hg
      have := Kd.C_string (P := Try.prog) (c := 1) Try.underlying23 Try.underlying5 Try.underlying9 (Kd.C_drew (C_block (xs := [kind]) (heap_new W (Obj.cells #[.int .u8 kind] 5)) rfl (by simp)))
      rwa [P4.out] at this
    go_region_held (fun W : World => True) (exact trivial)
      (first
          | (go_at_call 18; (with_reducible refine (k2.out _).mono ?_); rintro e w2 ⟨v2, rfl, hV, hb⟩; (have cv2 := fstr_own hV); (have cv2a := fun o : Obj => fstr_own (Kd.R_below hV (below_alloc (Below.refl w2.heap.size w2) o))); rw [P2.out] at cv2; simp only [P2.out] at cv2a; (have V2 := Aside0.mk hV); (have K1 := Aside0.mk (below_step K0.out hb)); clear hV hb)
          | (go_at_call 18; (with_reducible refine (k2.out _).mono ?_); rintro e w2 ⟨v2, rfl, hV, hb⟩; (have cv2 := fstr_own hV); (have cv2a := fun o : Obj => fstr_own (Kd.R_below hV (below_alloc (Below.refl w2.heap.size w2) o))); rw [P2.out] at cv2; simp only [P2.out] at cv2a; (have V2 := Aside0.mk hV); (have CK2 := Aside0.mk (Kd.C_below (Kd.C_drew (C_block (xs := [kind]) (heap_new w1 (Obj.cells #[.int .u8 kind] 5)) rfl (by simp))) hb)); (have ck2 : (convert 23 9 (.slice (some ⟨w1.heap.size, 0, none⟩) 1 1)).run Try.prog w2 = .ok (.string SK) w2 := by rw [← P4.out]; exact Kd.C_string (P := Try.prog) (c := 1) Try.underlying23 Try.underlying5 Try.underlying9 CK2.out); (have ck2a : ∀ o : Obj, (convert 23 9 (.slice (some ⟨w1.heap.size, 0, none⟩) 1 1)).run Try.prog (w2.alloc o) = .ok (.string SK) (w2.alloc o) := fun o => by rw [← P4.out]; exact Kd.C_string (P := Try.prog) (c := 1) Try.underlying23 Try.underlying5 Try.underlying9 (Kd.C_alloc CK2.out o)); (have K1 := Aside0.mk (below_step (below_drew (below_alloc B1.out _)) hb)); clear hV hb)
          | (go_at_call 18; (with_reducible refine (k3.out _).mono ?_); rintro e w3 ⟨v3, rfl, hV, hb⟩; (have V2b := Kd.R_below V2.out hb); (have CK3 := Aside0.mk (Kd.C_below CK2.out hb)); (have ck3 : (convert 23 9 (.slice (some ⟨w1.heap.size, 0, none⟩) 1 1)).run Try.prog w3 = .ok (.string SK) w3 := by rw [← P4.out]; exact Kd.C_string (P := Try.prog) (c := 1) Try.underlying23 Try.underlying5 Try.underlying9 CK3.out); (have cv3 := fstr_own hV); (have cv2b := fstr_own V2b); (have cv2c := fun o : Obj => fstr_own (Kd.R_below V2b (below_alloc (Below.refl w3.heap.size w3) o))); (have cv3a := fun o : Obj => fstr_own (Kd.R_below hV (below_alloc (Below.refl w3.heap.size w3) o))); rw [P2.out] at cv2b; rw [P3.out] at cv3; simp only [P2.out] at cv2c; simp only [P3.out] at cv3a; (have K2 := Aside0.mk (below_step K1.out hb)); clear V2b hV hb)
          | (go_at_call 18; (with_reducible refine (k3.out _).mono ?_); rintro e w3 ⟨v3, rfl, hV, hb⟩; (have V2b := Kd.R_below V2.out hb); (have cv3 := fstr_own hV); (have cv2b := fstr_own V2b); (have cv2c := fun o : Obj => fstr_own (Kd.R_below V2b (below_alloc (Below.refl w3.heap.size w3) o))); (have cv3a := fun o : Obj => fstr_own (Kd.R_below hV (below_alloc (Below.refl w3.heap.size w3) o))); rw [P2.out] at cv2b; rw [P3.out] at cv3; simp only [P2.out] at cv2c; simp only [P3.out] at cv3a; (have K2 := Aside0.mk (below_step K1.out hb)); clear V2b hV hb)
          | (go_at_call 18; (with_reducible refine (k3.out _).mono ?_); rintro e w3 ⟨v3, rfl, hV, hb⟩; (have V2b := Kd.R_below (Kd.R_below V2.out (below_alloc (Below.refl w2.heap.size w2) (Obj.cells #[.int .u8 kind] 5))) hb); (have ck3 : (convert 23 9 (.slice (some ⟨w2.heap.size, 0, none⟩) 1 1)).run Try.prog w3 = .ok (.string SK) w3 := by rw [← P4.out]; exact Kd.C_string (P := Try.prog) (c := 1) Try.underlying23 Try.underlying5 Try.underlying9 (Kd.C_below (C_block (xs := [kind]) (heap_new w2 (Obj.cells #[.int .u8 kind] 5)) rfl (by simp)) hb)); (have cv3 := fstr_own hV); (have cv2b := fstr_own V2b); (have cv2c := fun o : Obj => fstr_own (Kd.R_below V2b (below_alloc (Below.refl w3.heap.size w3) o))); (have cv3a := fun o : Obj => fstr_own (Kd.R_below hV (below_alloc (Below.refl w3.heap.size w3) o))); rw [P2.out] at cv2b; rw [P3.out] at cv3; simp only [P2.out] at cv2c; simp only [P3.out] at cv3a; (have K2 := Aside0.mk (below_step (below_alloc K1.out _) hb)); clear V2b hV hb))
    all_goals first | exact NoPanic.normal ⟨_, _, _, _, rfl, K2.out⟩ | exact NoPanic.normal ⟨_, _, _, _, rfl, below_alloc K2.out _⟩
  rintro _ W ⟨y15, y19, y22, y28, rfl, hbW⟩
  have HBW := Aside0.mk hbW
  obtain ⟨IN, hIN⟩ : ∃ S, S2 ++ SK ++ S3 ++ BS = S := ⟨_, rfl⟩
  have zI : IN.size = 17 + b.length := by rw [← hIN]; simp only [ByteArray.size_append, z2, z4, z3, hsz]
  rw [hIN]
  obtain ⟨m, hm⟩ : ∃ m : Nat, 4011 - b.length = m := ⟨_, rfl⟩
  have em : (4028 : Int) - (17 + (b.length : Int)) = (m : Int) := by omega
  have em2 : IntKind.i64.wrap (m : Int) = (m : Int) := by rw [IntKind.wrap_i64]; omega
  have hmk : ∀ W : World, (Instr.makeSlice 23 (.int .i64 m) (.int .i64 m)).run Try.prog W = .ok (.slice (some ⟨W.heap.size, 0, none⟩) m m) (W.alloc (.cells (madeCells #[Value.int .u8 0] m) 5)) := print_make (P := Try.prog) 23 5 .u8 1 Try.underlying23 infoU8 (by decide) m (by omega)
  have hmz : (madeCells #[Value.int .u8 0] m).toList = nums .u8 (zs m) := by rw [nums_zs, ← toList_madeCells_one]
  obtain ⟨Z0, hZ0⟩ : ∃ z, madeCells #[Value.int .u8 0] m = z := ⟨_, rfl⟩
  rw [hZ0] at hmk hmz
  have hkz : ∀ W : World, (convert 23 9 (.slice (some ⟨W.heap.size, 0, none⟩) m m)).run Try.prog (W.alloc (Obj.cells Z0 5)) = .ok (.string (strOfNums (zs m))) (W.alloc (Obj.cells Z0 5)) := fun W => by
    have := Kd.C_string (P := Try.prog) (c := m) Try.underlying23 Try.underlying5 Try.underlying9 (C_block (xs := zs m) (heap_new W (Obj.cells Z0 5)) hmz (by rw [zs_length]; omega))
    rwa [zs_length] at this
  obtain ⟨ZB, hZB⟩ : ∃ z, Obj.cells Z0 5 = z := ⟨_, rfl⟩
  obtain ⟨ZS, hZS⟩ : ∃ z, strOfNums (zs m) = z := ⟨_, rfl⟩
  have zz : ZS.size = m := by rw [← hZS, strOfNums_size, zs_length]
  rw [hZB] at hmk hkz
  rw [hZS] at hkz
  obtain ⟨IN2, hI2⟩ : ∃ z, IN ++ ZS = z := ⟨_, rfl⟩
  obtain ⟨SD, hSD⟩ : ∃ z, S1 ++ IN2 = z := ⟨_, rfl⟩
  have zI2 : IN2.size = 4028 := by rw [← hI2, ByteArray.size_append, zI, zz]; omega
  have zSD : SD.size = 4036 := by rw [← hSD, ByteArray.size_append, z1, zI2]
  have HI2 : Aside0 (IN2 = strOfNums (fdata at_ kind b)) := ⟨by rw [← HFD.out, fstr_app, ← HD.out, hm, hZS, hIN, hI2]⟩
  have HSD : Aside0 (SD = strOfNums (beN 8 stamp ++ fdata at_ kind b)) := ⟨by rw [fstr_app, ← HI2.out, P1.out, hSD]⟩
  have zs1 : (17 : Int) + (b.length : Int) + (m : Int) = 4028 := by omega
  have zs2 : 17 + b.length + m = 4028 := by omega
  have kcs : ∀ W : World, (convert 9 23 (.string SD)).run Try.prog W = .ok (.slice (some ⟨W.heap.size, 0, none⟩) 4036 (grownCap W 4036 0 5)) (Lib.bytesWorld W 5 SD) := fun W => by
    have := Lib.run_convert_string_bytes (P := Try.prog) W 9 23 5 SD Try.underlying9 Try.underlying23 Try.underlying5
    rwa [zSD] at this
  obtain ⟨n, hn⟩ : ∃ n : Nat, 4294967295 - crcBytes 4294967295 (beN 8 stamp ++ fdata at_ kind b) = n := ⟨_, rfl⟩
  have hcl := crcBytes_lt (beN 8 stamp ++ fdata at_ kind b) 4294967295 (by decide)
  have hnl : n < 4294967296 := by omega
  have hni : (4294967295 - ((crcBytes 4294967295 (beN 8 stamp ++ fdata at_ kind b) : Nat) : Int)) = (n : Int) := by omega
  have kf : quitrentref02_Check.f (beN 8 stamp ++ fdata at_ kind b) = some (n : Int) := by
    unfold quitrentref02_Check.f
    rw [refBytes_crcBytes _ _ HDB.out, hni]
  have krc : ∀ (W : World) (g : Nat), g = W.heap.size → Calls Try.prog 19 #[.slice (some ⟨g, 0, none⟩) 4036 (grownCap W 4036 0 5)] (Lib.bytesWorld W 5 SD) fun e w' => e = .returned (.int .u32 (n : Int)) ∧ Below W.heap.size W w' := fun W g hg => by
    subst hg
    have hC := C_str W 5 SD (by omega)
    rw [HSD.out, fbytesOf_str _ HDB.out, ← HSD.out] at hC
    have := quitrentref02_Check.calls _ (grownCap W 4036 0 5) _ (n : Int) _ hC (by rw [HDL.out]; exact grownCap_ge _ _ _ _) kf
    rw [HDL.out] at this
    refine this.mono ?_
    rintro e w' ⟨he, hd⟩
    exact ⟨he, below_step (str_below W 5 SD) hd.below⟩
  have KRC := Aside0.mk krc
  have HCK : Aside0 (fcheck stamp (fdata at_ kind b) = placeOf (n : Int)) := ⟨by unfold fcheck; rw [hni]⟩
  clear hbW B1 K0 ck k2 k3 hZ0 hZB hmz kf krc hni hcl hn
  have hn24 : (n : Int) / 16777216 % 256 = (n : Int) / 16777216 := by omega
  obtain ⟨CK, hCK⟩ : ∃ z, strOfNums (placeOf (n : Int)) = z := ⟨_, rfl⟩
  have zCK : CK.size = 4 := by rw [← hCK, strOfNums_size]; rfl
  have kck : ∀ W : World, (convert 23 9 (.slice (some ⟨W.heap.size, 0, none⟩) 4 4)).run Try.prog (W.alloc (Obj.cells #[.int .u8 ((n : Int) % 256), .int .u8 ((n : Int) / 256 % 256), .int .u8 ((n : Int) / 65536 % 256), .int .u8 ((n : Int) / 16777216)] 5)) = .ok (.string CK) (W.alloc (Obj.cells #[.int .u8 ((n : Int) % 256), .int .u8 ((n : Int) / 256 % 256), .int .u8 ((n : Int) / 65536 % 256), .int .u8 ((n : Int) / 16777216)] 5)) := fun W => by
    rw [← hCK]
    exact Kd.C_string (P := Try.prog) (c := 4) Try.underlying23 Try.underlying5 Try.underlying9 (C_block (xs := placeOf (n : Int)) (heap_new W _) (by unfold placeOf; rw [hn24]; rfl) (by unfold placeOf; simp))
  obtain ⟨FB, hFB⟩ : ∃ z, Obj.cells #[.int .u8 ((n : Int) % 256), .int .u8 ((n : Int) / 256 % 256), .int .u8 ((n : Int) / 65536 % 256), .int .u8 ((n : Int) / 16777216)] 5 = z := ⟨_, rfl⟩
  rw [hFB] at kck
  obtain ⟨IN3, hI3⟩ : ∃ z, IN2 ++ CK = z := ⟨_, rfl⟩
  have zI3 : IN3.size = 4032 := by rw [← hI3, ByteArray.size_append, zI2, zCK]
  have HI3 : Aside0 (IN3 = strOfNums (fin at_ kind stamp b)) := ⟨by rw [HIN.out, fstr_app, ← HI2.out, HCK.out, hCK, hI3]⟩
  obtain ⟨L, hL⟩ : ∃ l, fin at_ kind stamp b = l := ⟨_, rfl⟩
  rw [hL] at HI3 HFF HFL
  have ksl : ∀ k : Nat, k < 8 → ∀ W : World, (Instr.slice 9 (.string IN3) (some (.int .i64 (504 * (k : Int)))) (some (.int .i64 (504 * (k : Int) + 504))) none).run Try.prog W = .ok (.string (strOfNums ((L.drop (504 * k)).take 504))) W := fun k hk W => by
    have h1 := run_slice_string_if (P := Try.prog) (w := W) 9 IN3 .i64 .i64 (504 * (k : Int)) (504 * (k : Int) + 504) Try.underlying9
    rw [h1, zI3, if_pos (by omega), if_pos (by omega), HI3.out, str_part _ _ _ (by rw [HFL.out]; omega)]
    rw [show (504 * (k : Int)).toNat = 504 * k by omega, show (504 * (k : Int) + 504).toNat - 504 * k = 504 by omega]
  have KSL := Aside0.mk ksl
  have KST : Aside0 (∀ k : Nat, k < 8 → strOfNums (fsecs stamp L k) ++ S1 ++ strOfNums ((L.drop (504 * k)).take 504) = strOfNums (fsecs stamp L (k + 1))) := ⟨fun k hk => by
    rw [fsecs_succ, fstr_app]; unfold fsect; rw [fstr_app, P1.out, ByteArray.append_assoc]⟩
  have KSZ : Aside0 (∀ k : Nat, k ≤ 8 → (strOfNums (fsecs stamp L k)).size = 512 * k) := ⟨fun k hk => by rw [strOfNums_size, fsecs_length stamp L HFL.out k hk]⟩
  clear hL ksl hCK
  go_wp2_with fail
  refine (KRC.out _ _ (by simp)).mono ?_
  rintro e w5 ⟨rfl, hb5⟩
  have HB5 := Aside0.mk (below_step (below_alloc HBW.out _) hb5)
  clear hb5 KRC
  go_wp2_with fail
  go_loop [12, 13] (fun o i => ∃ j : Nat, j ≤ 8 ∧ i = .int .i64 j ∧ Aside0 (o = .string (strOfNums (fsecs stamp L j)))) (fun _ i => 8 - (intOf i).toNat)
  case atStart => exact ⟨0, by omega, rfl, ⟨rfl⟩⟩
  case round =>
    obtain ⟨j, hj, rfl, HO⟩ := hrel
    have ho := HO.out
    subst ho
    have zO := KSZ.out j hj
    by_cases hlt : j < 8
    · have hsl := KSL.out j hlt
      have hst := KST.out j hlt
      have zP : (strOfNums ((L.drop (504 * j)).take 504)).size = 504 := by rw [strOfNums_size, List.length_take, List.length_drop, HFL.out]; omega
      obtain ⟨O, hO⟩ : ∃ z, strOfNums (fsecs stamp L j) = z := ⟨_, rfl⟩
      obtain ⟨PT, hPT⟩ : ∃ z, strOfNums ((L.drop (504 * j)).take 504) = z := ⟨_, rfl⟩
      obtain ⟨O2, hO2⟩ : ∃ z, strOfNums (fsecs stamp L (j + 1)) = z := ⟨_, rfl⟩
      rw [hO] at zO hst ⊢
      rw [hPT] at zP hst hsl
      rw [hO2] at hst
      have HO2 := Aside0.mk hO2
      have ew7 : IntKind.i64.wrap (504 * (j : Int)) = 504 * (j : Int) := by rw [IntKind.wrap_i64]; omega
      have ew8 : IntKind.i64.wrap (504 * (j : Int) + 504) = 504 * (j : Int) + 504 := by rw [IntKind.wrap_i64]; omega
      have ew9 : IntKind.i64.wrap ((j : Int) + 1) = (j : Int) + 1 := by rw [IntKind.wrap_i64]; omega
      have zl : (j : Int) < 8 := by omega
      clear hO hPT hO2
      go_wp2_with fail
      exact ⟨⟨j + 1, by omega, by simp, ⟨by rw [HO2.out]⟩⟩, by simp [intOf]; omega⟩
    · obtain rfl : j = 8 := by omega
      go_wp2_with fail
      go_ret
      exact ⟨by rw [HFF.out]; rfl, below_alloc HB5.out _⟩
end Go.Proofs.Ytddajglkefpjdaa.Ext
