/- The contracts of package frame, in the print's form; quitrentlaw04.goes. -/
import Derived.Test.YtddajglkefpjdaaFLaw1
namespace Go.Proofs.Ytddajglkefpjdaa.Ext
open Go.RowKit Go.Proofs.YtddajglkefpjdaaW.PrintWords Go.Proofs.YtddajglkefpjdaaW.PrintLast Go.Proofs.YtddajglkefpjdaaW.PrintMore Go.Proofs.YtddajglkefpjdaaW.Hand
set_option linter.unusedVariables false
/-- What Put answers. -/
def fputv (at_ kind stamp : Int) (b : List Int) : List Int × Int := if at_ < 0 ∨ 4096 ≤ at_ ∨ stamp = 0 then ([], 1) else if 4011 < b.length then ([], 2) else (fframe at_ kind stamp b, 0)
theorem fPut_all (at_ kind stamp : Int) (A : Option Addr) (c : Nat) (b : List Int) (w : World) (hC : Kd.C (Kd.int .u8) w A b.length b) (hc : b.length ≤ c) (h2 : 0 ≤ stamp) (h3 : stamp < top64) (hk : 0 ≤ kind ∧ kind < 256) :
    Calls Try.prog 8 #[.int .i64 at_, .int .u8 kind, .int .u64 stamp, .slice A b.length c] w fun e w' => ∃ v : Value, e = .returned (.tuple #[v, .int .i64 (fputv at_ kind stamp b).2]) ∧ Kd.R (Kd.int .u8) 5 w' w.heap.size (fun _ => True) v (fputv at_ kind stamp b).1 ∧ Below w.heap.size w w' := by
  by_cases h : at_ < 0 ∨ 4096 ≤ at_ ∨ stamp = 0
  · have e : fputv at_ kind stamp b = ([], 1) := by unfold fputv; rw [if_pos h]
    rw [e]
    refine (fPut_bad at_ kind stamp A b.length c w h).mono ?_
    rintro e w' ⟨rfl, hb⟩
    exact ⟨_, rfl, Kd.R_nil _ _ _ _ _, hb⟩
  · by_cases hl : 4011 < b.length
    · have e : fputv at_ kind stamp b = ([], 2) := by unfold fputv; rw [if_neg h, if_pos hl]
      rw [e]
      refine (fPut_long at_ kind stamp A b.length c w (by omega) (by omega) (by omega) hl).mono ?_
      rintro e w' ⟨rfl, hb⟩
      exact ⟨_, rfl, Kd.R_nil _ _ _ _ _, hb⟩
    · have e : fputv at_ kind stamp b = (fframe at_ kind stamp b, 0) := by unfold fputv; rw [if_neg h, if_neg hl]
      rw [e]
      exact fPut_yes at_ kind stamp A c b w hC hc (by omega) (by omega) (by omega) h3 hk (by omega)
theorem fGet_all (A : Option Addr) (c : Nat) (page : List Int) (hby : ∀ x ∈ page, IsByte x) (at_ kind : Int) (hk : 0 ≤ kind ∧ kind < 256) (w : World) (hC : Kd.C (Kd.int .u8) w A page.length page) (hc : page.length ≤ c) :
    Calls Try.prog 13 #[.slice A page.length c, .int .i64 at_, .int .u8 kind] w fun e w' => ∃ v : Value, e = .returned (.tuple #[v, .int .u64 (fgetv page at_ kind).2.1, .bool (fgetv page at_ kind).2.2]) ∧ Kd.R (Kd.int .u8) 5 w' w.heap.size (fun _ => True) v (fgetv page at_ kind).1 ∧ Below w.heap.size w w' := by
  by_cases hl : page.length = 4096
  · rw [hl] at hC hc ⊢
    exact fGet_full A c page hl hby at_ kind hk w hC hc
  · have e : fgetv page at_ kind = ([], 0, false) := by unfold fgetv; rw [if_neg (fun h => hl h.1)]
    rw [e]
    refine (fGet_short A c page.length at_ kind w hl).mono ?_
    rintro e w' ⟨rfl, hb⟩
    exact ⟨_, rfl, Kd.R_nil _ _ _ _ _, hb⟩
theorem fNew_all (A : Option Addr) (c : Nat) (page : List Int) (hby : ∀ x ∈ page, IsByte x) (w : World) (hC : Kd.C (Kd.int .u8) w A page.length page) (hc : page.length ≤ c) :
    Calls Try.prog 12 #[.slice A page.length c] w fun e w' => e = .returned (.int .u64 (fnewv page)) ∧ Below w.heap.size w w' := by
  by_cases hl : page.length = 4096
  · have e : fnewv page = fnewest page (List.range 8) := by unfold fnewv; rw [if_pos hl]
    rw [e]
    rw [hl] at hC hc ⊢
    exact fNew_full A c page hl hby w hC hc
  · have e : fnewv page = 0 := by unfold fnewv; rw [if_neg hl]
    rw [e]
    exact fNew_short A c page.length w hl
theorem fGet_at (A : Option Addr) (c n : Nat) (page : List Int) (hn : page.length = n) (hby : ∀ x ∈ page, IsByte x) (at_ kind t2 : Int) (t1 : List Int) (t3 : Bool) (hk : 0 ≤ kind ∧ kind < 256) (w : World) (hC : Kd.C (Kd.int .u8) w A n page) (hc : n ≤ c) (hg : fgetv page at_ kind = (t1, t2, t3)) :
    Calls Try.prog 13 #[.slice A n c, .int .i64 at_, .int .u8 kind] w fun e w' => ∃ A' c', e = .returned (.tuple #[.slice A' t1.length c', .int .u64 t2, .bool t3]) ∧ Kd.R (Kd.int .u8) 5 w' w.heap.size (fun _ => True) (.slice A' t1.length c') t1 ∧ Below w.heap.size w w' := by
  subst hn
  refine (fGet_all A c page hby at_ kind hk w hC hc).mono ?_
  rw [hg]
  rintro e w' ⟨v, rfl, hr, hb⟩
  obtain ⟨A1, c1, ev⟩ := Kd.R_slice hr
  subst ev
  exact ⟨A1, c1, rfl, hr, hb⟩
theorem fNew_at (A : Option Addr) (c n : Nat) (page : List Int) (hn : page.length = n) (hby : ∀ x ∈ page, IsByte x) (t : Int) (w : World) (hC : Kd.C (Kd.int .u8) w A n page) (hc : n ≤ c) (hg : fnewv page = t) :
    Calls Try.prog 12 #[.slice A n c] w fun e w' => e = .returned (.int .u64 t) ∧ Below w.heap.size w w' := by
  subst hn; subst hg
  exact fNew_all A c page hby w hC hc
theorem fPut_at (at_ kind stamp : Int) (A : Option Addr) (c n : Nat) (b : List Int) (hn : b.length = n) (t1 : List Int) (t2 : Int) (m : Nat) (hm : t1.length = m) (w : World) (hC : Kd.C (Kd.int .u8) w A n b) (hc : n ≤ c) (h2 : 0 ≤ stamp) (h3 : stamp < top64) (hk : 0 ≤ kind ∧ kind < 256) (hp : fputv at_ kind stamp b = (t1, t2)) :
    Calls Try.prog 8 #[.int .i64 at_, .int .u8 kind, .int .u64 stamp, .slice A n c] w fun e w' => ∃ A' c', e = .returned (.tuple #[.slice A' m c', .int .i64 t2]) ∧ m ≤ c' ∧ Kd.C (Kd.int .u8) w' A' m t1 ∧ Kd.R (Kd.int .u8) 5 w' w.heap.size (fun _ => True) (.slice A' m c') t1 ∧ Below w.heap.size w w' := by
  subst hn; subst hm
  refine (fPut_all at_ kind stamp A c b w hC hc h2 h3 hk).mono ?_
  rw [hp]
  rintro e w' ⟨v, rfl, hr, hb⟩
  obtain ⟨A1, c1, ev⟩ := Kd.R_slice hr
  subst ev
  exact ⟨A1, c1, rfl, (Kd.R_reads' hr).2.1, (Kd.R_reads' hr).2.2, hr, hb⟩
abbrev abB : List Int := [97, 98]
theorem goes_put : fputv 5 1 9 abB = (fframe 5 1 9 abB, 0) := by unfold fputv; rw [if_neg (by omega), if_neg (by decide)]
theorem goes_len : (fframe 5 1 9 abB).length = 4096 := fframe_length _ _ _ _ (by decide)
theorem goes_get (at_ kind : Int) (hk : 0 ≤ kind ∧ kind < 256) : fgetv (fframe 5 1 9 abB) at_ kind = if at_ = 5 ∧ kind = 1 then (abB, 9, true) else ([], 0, false) :=
  fgetv_frame 5 at_ 1 kind 9 abB (by decide) (by decide) (by decide) hk (by unfold top64; decide)
theorem goes_bytes : ∀ x ∈ fframe 5 1 9 abB, IsByte x := fframe_bytes _ _ _ _ (by intro x hx; simp at hx; unfold IsByte; omega)
set_option maxRecDepth 100000 in
set_option maxHeartbeats 1600000 in
theorem goes_true (w : World) : Calls Try.prog 10 #[] w fun e w' => e = .returned (.bool true) ∧ Below w.heap.size w w' := by
  have kc := fun (w : World) (C : Array Value) (n c : Nat) => Lib.run_convert_bytes_const (P := Try.prog) w 23 5 C n c Try.underlying23 Try.underlying5
  have ep := goes_put
  have el := goes_len
  have eb := Aside0.mk goes_bytes
  have g1 := Aside0.mk ((goes_get 5 1 (by decide)).trans (if_pos ⟨rfl, rfl⟩))
  have g2 := Aside0.mk ((goes_get 6 1 (by decide)).trans (if_neg (by decide)))
  have g3 := Aside0.mk ((goes_get 5 2 (by decide)).trans (if_neg (by decide)))
  have nv := fnewv_frame 5 1 9 abB (by decide) (by unfold top64; decide)
  obtain ⟨P, hP⟩ : ∃ l, fframe 5 1 9 abB = l := ⟨_, rfl⟩
  rw [hP] at ep el eb g1 g2 g3 nv
  have HEP := Aside0.mk ep
  have HEL := Aside0.mk el
  have HNV := Aside0.mk nv
  clear hP ep el nv
  go_enter Try.func10, Try.ntmps10
  go_wp2_with fail
  refine (fPut_at 5 1 9 _ 2 2 abB rfl P 0 4096 HEL.out _ (C_block (xs := abB) (heap_new _ _) rfl (by decide)) (Nat.le_refl _) (by decide) (by unfold top64; decide) (by decide) HEP.out).mono ?_
  rintro e w1 ⟨A1, c1, rfl, hl1, hc1, _, hb1⟩
  have C1 := Aside0.mk hc1
  have L1 := Aside0.mk hl1
  have HB1 := Aside0.mk (below_step (below_alloc (Below.refl w.heap.size w) (Obj.cells #[.int .u8 97, .int .u8 98] 5 (2, 3))) hb1)
  clear hc1 hl1 hb1
  go_wp2_with fail
  refine (fGet_at A1 c1 4096 P HEL.out eb.out 5 1 9 abB true (by decide) w1 C1.out L1.out g1.out).mono ?_
  rintro e w2 ⟨A2, c2, rfl, hr2, hb2⟩
  have HB2 := Aside0.mk (below_step HB1.out hb2)
  have C2 := Aside0.mk (Kd.C_below C1.out hb2)
  have R2 := Aside0.mk hr2
  clear hr2 hb2
  go_wp2_with fail
  refine (fGet_at A1 c1 4096 P HEL.out eb.out 6 1 0 [] false (by decide) w2 C2.out L1.out g2.out).mono ?_
  rintro e w3 ⟨A3, c3, rfl, _, hb3⟩
  have HB3 := Aside0.mk (below_step HB2.out hb3)
  have C3 := Aside0.mk (Kd.C_below C2.out hb3)
  have R3 := Aside0.mk (Kd.R_below R2.out hb3)
  clear hb3
  go_wp2_with fail
  refine (fGet_at A1 c1 4096 P HEL.out eb.out 5 2 0 [] false (by decide) w3 C3.out L1.out g3.out).mono ?_
  rintro e w4 ⟨A4, c4, rfl, _, hb4⟩
  have HB4 := Aside0.mk (below_step HB3.out hb4)
  have C4 := Aside0.mk (Kd.C_below C3.out hb4)
  have R4 := Aside0.mk (Kd.R_below R3.out hb4)
  clear hb4
  go_wp2_with fail
  refine (fPut_bad 5 1 0 none 0 0 w4 (.inr (.inr rfl))).mono ?_
  rintro e w5 ⟨rfl, hb5⟩
  have HB5 := Aside0.mk (below_step HB4.out hb5)
  have C5 := Aside0.mk (Kd.C_below C4.out hb5)
  have R5 := Kd.R_below R4.out hb5
  have kst : (convert 23 9 (.slice A2 2 c2)).run Try.prog w5 = .ok (.string ⟨#[97, 98]⟩) w5 := own_string (P := Try.prog) Try.underlying23 Try.underlying5 Try.underlying9 (Kd.own_of_R R5)
  clear hb5 R5
  go_wp2_with fail
  refine (fNew_at A1 c1 4096 P HEL.out eb.out 9 w5 C5.out L1.out HNV.out).mono ?_
  rintro e w6 ⟨rfl, hb6⟩
  have HB6 := Aside0.mk (below_step HB5.out hb6)
  clear hb6
  go_wp2_with fail
  go_ret
  exact ⟨rfl, HB6.out⟩
def bytesOk (l : List Int) : Bool := l.all fun x => decide (0 ≤ x) && decide (x < 256)
theorem bytesOk_iff {l : List Int} (h : bytesOk l = true) : ∀ x ∈ l, IsByte x := fun x hx => by
  have := List.all_eq_true.1 h x hx
  simpa [IsByte] using this
theorem bytesOk_of {l : List Int} (h : ∀ x ∈ l, IsByte x) : bytesOk l = true := List.all_eq_true.2 fun x hx => by
  have := h x hx
  simpa [IsByte] using this
def frame_Put.f (at_ kind stamp : Int) (l : List Int) : Option (List Int × Int) := if (0 ≤ stamp ∧ stamp < top64) ∧ (0 ≤ kind ∧ kind < 256) then some (fputv at_ kind stamp l) else none
theorem frame_Put.calls (at_ kind stamp : Int) (A : Option Addr) (c : Nat) (l : List Int) (t1 : List Int) (t2 : Int) (w : World) (hC : Kd.C (Kd.int .u8) w A l.length l) (hc : l.length ≤ c) (h : frame_Put.f at_ kind stamp l = some (t1, t2)) :
    Calls Try.prog 8 #[.int .i64 at_, .int .u8 kind, .int .u64 stamp, .slice A l.length c] w fun e w' => ∃ v : Value, e = .returned (.tuple #[v, .int .i64 t2]) ∧ Kd.R (Kd.int .u8) 5 w' w.heap.size (fun _ => True) v t1 ∧ Below w.heap.size w w' := by
  unfold frame_Put.f at h
  by_cases h1 : (0 ≤ stamp ∧ stamp < top64) ∧ (0 ≤ kind ∧ kind < 256)
  · rw [if_pos h1] at h
    have h := Option.some.inj h
    have := fPut_all at_ kind stamp A c l w hC hc h1.1.1 h1.1.2 h1.2
    rw [h] at this
    exact this
  · rw [if_neg h1] at h; cases h
def frame_Get.f (l : List Int) (at_ kind : Int) : Option (List Int × Int × Bool) := if bytesOk l = true ∧ (0 ≤ kind ∧ kind < 256) then some (fgetv l at_ kind) else none
theorem frame_Get.calls (A : Option Addr) (c : Nat) (l : List Int) (at_ kind : Int) (t1 : List Int) (t2 : Int) (t3 : Bool) (w : World) (hC : Kd.C (Kd.int .u8) w A l.length l) (hc : l.length ≤ c) (h : frame_Get.f l at_ kind = some (t1, t2, t3)) :
    Calls Try.prog 13 #[.slice A l.length c, .int .i64 at_, .int .u8 kind] w fun e w' => ∃ v : Value, e = .returned (.tuple #[v, .int .u64 t2, .bool t3]) ∧ Kd.R (Kd.int .u8) 5 w' w.heap.size (fun _ => True) v t1 ∧ Below w.heap.size w w' := by
  unfold frame_Get.f at h
  by_cases h1 : bytesOk l = true ∧ (0 ≤ kind ∧ kind < 256)
  · rw [if_pos h1] at h
    have h := Option.some.inj h
    have := fGet_all A c l (bytesOk_iff h1.1) at_ kind h1.2 w hC hc
    rw [h] at this
    exact this
  · rw [if_neg h1] at h; cases h
def frame_Newest.f (l : List Int) : Option Int := if bytesOk l = true then some (fnewv l) else none
theorem frame_Newest.calls (A : Option Addr) (c : Nat) (l : List Int) (r : Int) (w : World) (hC : Kd.C (Kd.int .u8) w A l.length l) (hc : l.length ≤ c) (h : frame_Newest.f l = some r) :
    Calls Try.prog 12 #[.slice A l.length c] w fun e w' => e = .returned (.int .u64 r) ∧ Below w.heap.size w w' := by
  unfold frame_Newest.f at h
  by_cases h1 : bytesOk l = true
  · rw [if_pos h1] at h
    obtain rfl := Option.some.inj h
    exact fNew_all A c l (bytesOk_iff h1) w hC hc
  · rw [if_neg h1] at h; cases h
def quitrentlaw04_goes.f : Option Bool := some true
theorem quitrentlaw04_goes.calls (r : Bool) (w : World) (h : quitrentlaw04_goes.f = some r) :
    Calls Try.prog 10 #[] w fun e w' => e = .returned (.bool r) ∧ Below w.heap.size w w' := by
  obtain rfl := Option.some.inj h
  exact goes_true w
end Go.Proofs.Ytddajglkefpjdaa.Ext
