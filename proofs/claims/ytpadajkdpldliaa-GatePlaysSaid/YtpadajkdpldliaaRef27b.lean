/- quitrentref27.Get, proved by walking its code. -/
import Derived.Test.YtpadajkdpldliaaRef27
import Derived.Lib.Strings
import Derived.Test.YtpadajkdpldliaaAsks
namespace Go.Proofs.Ytpadajkdpldliaa.Ext
open Go.RowKit Go.Proofs.YtpadajkdpldliaaW.PrintWords Go.Proofs.YtpadajkdpldliaaW.PrintLast Go.Proofs.YtpadajkdpldliaaW.PrintMore Go.Proofs.YtpadajkdpldliaaW.Hand
set_option linter.unusedVariables false
theorem strOf_list (l : List Int) : (strOfNums l).toList = l.map fun n => UInt8.ofNat n.toNat := by
  rw [Lib.toList_data]; simp [strOfNums]
theorem bytesOf_str (l : List Int) (h : ∀ x ∈ l, IsByte x) : bytesOf (strOfNums l) = l := by
  unfold bytesOf
  rw [strOfNums_data, List.map_map]
  conv => rhs; rw [← List.map_id l]
  apply List.map_congr_left
  intro x hx
  have := h x hx
  unfold IsByte at this
  simp
  omega
theorem strOf_inj {x y : List Int} (hx : ∀ c ∈ x, IsByte c) (hy : ∀ c ∈ y, IsByte c) (h : (strOfNums x).toList = (strOfNums y).toList) : x = y := by
  have e : strOfNums x = strOfNums y := by
    have h1 := congrArg (fun l : List UInt8 => (⟨l.toArray⟩ : ByteArray)) h
    simp only [Lib.toList_data] at h1
    generalize strOfNums x = a at h1
    generalize strOfNums y = b at h1
    obtain ⟨⟨a⟩⟩ := a
    obtain ⟨⟨b⟩⟩ := b
    exact h1
  have := congrArg bytesOf e
  rwa [bytesOf_str x hx, bytesOf_str y hy] at this
/-- What the reference's Get answers. -/
def RGetIs (e : Ending) : Option (Int × List Int) → Prop
  | none => e = .returned (.tuple #[.int .u64 0, .string ⟨#[]⟩, .bool false])
  | some p => e = .returned (.tuple #[.int .u64 p.1, .string (strOfNums p.2), .bool true])
theorem rget_none {l : List Int} (h : l.length < 12) : rget l = none := by unfold rget; rw [if_pos h]
theorem rget_some {l : List Int} (h : ¬ l.length < 12) (he : lett (beVal (l.take 8)) (l.drop 12) = l) : rget l = some (beVal (l.take 8), l.drop 12) := by unfold rget; rw [if_neg h, if_pos he]
theorem rget_not {l : List Int} (h : ¬ l.length < 12) (he : ¬ lett (beVal (l.take 8)) (l.drop 12) = l) : rget l = none := by unfold rget; rw [if_neg h, if_neg he]
theorem lett_bytes (n : Int) (s : List Int) (hs : ∀ x ∈ s, IsByte x) : ∀ x ∈ lett n s, IsByte x := by
  intro x hx
  unfold lett at hx
  rcases List.mem_append.1 hx with h | h
  · exact beN_bytes _ _ x h
  · rcases List.mem_append.1 h with h | h
    · exact beN_bytes _ _ x h
    · exact hs x h
set_option maxRecDepth 100000 in
set_option maxHeartbeats 1600000 in
theorem rGet_calls (A : Option Addr) (c : Nat) (l : List Int) (w : World) (hr : Kd.C (Kd.int .u8) w A l.length l) (hc : l.length ≤ c) (hb : ∀ x ∈ l, IsByte x) (hm : l.length ≤ 1000000) :
    Calls Try.prog 23 #[.slice A l.length c] w fun e w' => Below w.heap.size w w' ∧ RGetIs e (rget l) := by
  by_cases h12 : l.length < 12
  · have hlt : (l.length : Int) < 12 := by omega
    have HG := Aside0.mk (rget_none h12)
    clear hr hb h12
    go_enter Try.func23, Try.ntmps23
    go_wp2_with fail
    go_ret3
    exact ⟨Below.refl _ _, by rw [HG.out]; exact rfl⟩
  have hng : ¬ (l.length : Int) < 12 := by omega
  obtain ⟨s1, t1⟩ := cut_to .i64 (A := A) (c := c) (xs := l) (b := 8) (by omega) hc 8 rfl
  obtain ⟨A2, c2, s2, t2, hc2⟩ := cut_from .i64 (A := A) (c := c) (xs := l) (a := 12) (by omega) hc 12 rfl
  have hl8 : (l.take 8).length = 8 := by rw [List.length_take]; omega
  have HC1 := t1 w hr
  rw [hl8] at HC1
  have kv := Aside0.mk (Value_calls A c 8 (l.take 8) hl8 w HC1 (fun x hx => hb x (List.mem_of_mem_take hx)) (by omega))
  have hv0 := (beVal_lt (l.take 8) (fun x hx => hb x (List.mem_of_mem_take hx))).1
  obtain ⟨V, hV⟩ : ∃ V, beVal (l.take 8) = V := ⟨_, rfl⟩
  obtain ⟨S, hS⟩ : ∃ S, strOfNums (l.drop 12) = S := ⟨_, rfl⟩
  obtain ⟨L, hL⟩ : ∃ L, strOfNums l = L := ⟨_, rfl⟩
  obtain ⟨P, hP⟩ : ∃ P, strOfNums (lett V (l.drop 12)) = P := ⟨_, rfl⟩
  have hbS : bytesOf S = l.drop 12 := by rw [← hS]; exact bytesOf_str _ (fun x hx => hb x (List.mem_of_mem_drop hx))
  have hsz : S.size ≤ 1000000 := by rw [← hS, strOfNums_size, List.length_drop]; omega
  have hq : (P.toList == L.toList) = decide (lett V (l.drop 12) = l) := by
    by_cases he : lett V (l.drop 12) = l
    · rw [← hP, ← hL, he]; simp
    · rw [decide_eq_false he]
      cases hq : (P.toList == L.toList) with
      | false => rfl
      | true =>
        rw [← hP, ← hL] at hq
        exact absurd (strOf_inj (lett_bytes _ _ (fun x hx => hb x (List.mem_of_mem_drop hx))) hb (by simpa using hq)) he
  have hg : rget l = if lett V (l.drop 12) = l then some (V, l.drop 12) else none := by
    unfold rget; rw [if_neg h12, hV]
  have cs := Aside0.mk (fun (W : World) (h : Kd.C (Kd.int .u8) W A l.length l) => str_came (c := c2) (t2 W h) hS)
  have cl := Aside0.mk (fun (W : World) (h : Kd.C (Kd.int .u8) W A l.length l) => str_came (c := c) h hL)
  have HP := Aside0.mk hP
  have HbS := Aside0.mk hbS
  have HSZ := Aside0.mk hsz
  have HR := Aside0.mk hr
  have HS := Aside0.mk hS
  have HG := Aside0.mk hg
  rw [hV] at kv hv0
  obtain ⟨n2, hn2⟩ : ∃ n, (l.drop 12).length = n := ⟨_, rfl⟩
  rw [hn2] at s2 cs
  generalize hQ : (P.toList == L.toList) = Q at hq
  have HQ := Aside0.mk hq
  clear t1 t2 hl8 HC1 hV hS hL hP hbS hsz hg hb hr hc2 hn2 hq h12 hc hm
  go_enter Try.func23, Try.ntmps23
  go_wp2_with fail
  refine kv.out.mono ?_
  rintro e w1 ⟨rfl, hd⟩
  have hb1 := hd.below
  have HC1 := Kd.C_below HR.out hb1
  have cs1 := cs.out w1 HC1
  have HB1 := Aside0.mk hb1
  have HC1 := Aside0.mk HC1
  clear hd hb1
  go_wp2_with fail
  clear cs1
  have K0 := Aside0.mk (below_drew (Below.refl w1.heap.size w1))
  have cl1 := cl.out w1.drew (Kd.C_below HC1.out K0.out)
  have H0 := Aside0.mk hv0
  clear hv0
  go_region_with (go_at_call 19; (with_reducible refine (rPut_calls V S _ H0.out (by have := HSZ.out; omega)).mono ?_); rintro e w2 ⟨v2, rfl, hV, hb⟩; (have cv := str_own hV); rw [HbS.out, HP.out] at cv; (have K1 := Aside0.mk (below_step (below_drew (Below.refl w1.heap.size w1)) hb)); (have cl2 := cl.out w2 (Kd.C_below HC1.out K1.out)); clear hV hb)
  all_goals
    have K2 := Aside0.mk (below_step HB1.out K1.out)
    cases Q with
    | true =>
      go_wp2_with fail
      go_ret3
      refine ⟨K2.out, ?_⟩
      rw [HG.out, if_pos (of_decide_eq_true HQ.out.symm)]
      show _ = _
      rw [HS.out]
      exact rfl
    | false =>
      go_wp2_with fail
      go_ret3
      refine ⟨K2.out, ?_⟩
      rw [HG.out, if_neg (of_decide_eq_false HQ.out.symm)]
      exact rfl
end Go.Proofs.Ytpadajkdpldliaa.Ext
