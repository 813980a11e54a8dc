/- Pages of two frames: which sectors are whose. -/
import Derived.Test.YtddajglkefpjdaaFLaw1
namespace Go.Proofs.Ytddajglkefpjdaa.Ext
open Go.RowKit Go.Proofs.YtddajglkefpjdaaW.PrintWords Go.Proofs.YtddajglkefpjdaaW.PrintLast Go.Proofs.YtddajglkefpjdaaW.PrintMore Go.Proofs.YtddajglkefpjdaaW.Hand
set_option linter.unusedVariables false
def sector (l : List Int) (j : Nat) : List Int := (l.drop (512 * j)).take 512
theorem sectors_all (l : List Int) : ∀ j, ((List.range j).map (sector l)).flatten = l.take (512 * j) := by
  intro j
  induction j with
  | zero => simp
  | succ j ih => rw [List.range_succ, List.map_append, List.flatten_append, ih, show 512 * (j + 1) = 512 * j + 512 by omega, List.take_add]; simp [sector]
theorem eq_of_sectors {x y : List Int} (hx : x.length = 4096) (hy : y.length = 4096) (h : ∀ j, j < 8 → sector x j = sector y j) : x = y := by
  have e : (List.range 8).map (sector x) = (List.range 8).map (sector y) := List.map_congr_left fun j hj => h j (List.mem_range.1 hj)
  have h1 := sectors_all x 8
  have h2 := sectors_all y 8
  rw [e, h2, List.take_of_length_le (by omega), List.take_of_length_le (by omega)] at h1
  exact h1.symm
theorem sector_length (l : List Int) (h : l.length = 4096) (j : Nat) (hj : j < 8) : (sector l j).length = 512 := by unfold sector; rw [List.length_take, List.length_drop, h]; omega
set_option maxRecDepth 100000 in
theorem sector_splice (l s : List Int) (hl : l.length = 4096) (hs : s.length = 512) (i j : Nat) (hi : i < 8) (hj : j < 8) : sector (isplice l (512 * i) s) j = if i = j then s else sector l j := by
  apply List.ext_getElem?
  intro r
  have key : ∀ (m : List Int), (sector m j)[r]? = if r < 512 then m[512 * j + r]? else none := by
    intro m
    unfold sector
    rw [List.getElem?_take]
    split
    · rw [List.getElem?_drop]
    · rfl
  have hsp : ∀ p, (isplice l (512 * i) s)[p]? = if p < 512 * i then l[p]? else if p < 512 * i + 512 then s[p - 512 * i]? else l[p]? := by
    intro p
    unfold isplice
    have hlt : (l.take (512 * i)).length = 512 * i := by rw [List.length_take]; omega
    rw [List.getElem?_append]
    split
    · rename_i h
      rw [hlt] at h
      rw [List.getElem?_take, if_pos h, if_pos h]
    · rename_i h
      rw [hlt] at h
      rw [if_neg h, hlt, List.getElem?_append]
      split
      · rename_i h2; rw [if_pos (by omega)]
      · rename_i h2
        rw [if_neg (by omega), List.getElem?_drop, hs]
        congr 1
        omega
  rw [key, hsp]
  by_cases hr : r < 512
  · rw [if_pos hr]
    by_cases hij : i = j
    · subst hij
      rw [if_pos rfl, if_neg (by omega), if_pos (by omega), show 512 * i + r - 512 * i = r by omega]
    · rw [if_neg hij, key, if_pos hr]
      split
      · rfl
      · rw [if_neg (by omega)]
  · rw [if_neg hr]
    by_cases hij : i = j
    · rw [if_pos hij, List.getElem?_eq_none (by omega)]
    · rw [if_neg hij, key, if_neg hr]
def bitOf (mask : Int) (j : Nat) : Bool := decide (mask / 2 ^ j % 2 = 1)
/-- A page some of whose sectors are another one's. -/
def tmix (X Y : List Int) (mask : Int) : Nat → List Int
  | 0 => X
  | k + 1 => if bitOf mask k = true then isplice (tmix X Y mask k) (512 * k) (sector Y k) else tmix X Y mask k
theorem tmix_length (X Y : List Int) (mask : Int) (hX : X.length = 4096) (hY : Y.length = 4096) : ∀ k, k ≤ 8 → (tmix X Y mask k).length = 4096 := by
  intro k
  induction k with
  | zero => intro _; exact hX
  | succ k ih =>
    intro h
    unfold tmix
    split
    · rw [isplice_length _ _ _ (by rw [sector_length Y hY k (by omega), ih (by omega)]; omega), ih (by omega)]
    · exact ih (by omega)
theorem tmix_sector (X Y : List Int) (mask : Int) (hX : X.length = 4096) (hY : Y.length = 4096) (j : Nat) (hj : j < 8) : ∀ k, k ≤ 8 → sector (tmix X Y mask k) j = if j < k ∧ bitOf mask j = true then sector Y j else sector X j := by
  intro k
  induction k with
  | zero => intro _; rw [if_neg (by omega)]; rfl
  | succ k ih =>
    intro h
    have hi := ih (by omega)
    unfold tmix
    by_cases hb : bitOf mask k = true
    · rw [if_pos hb, sector_splice _ _ (tmix_length X Y mask hX hY k (by omega)) (sector_length Y hY k (by omega)) k j (by omega) hj]
      by_cases hkj : k = j
      · subst hkj; rw [if_pos rfl, if_pos ⟨by omega, hb⟩]
      · rw [if_neg hkj, hi]
        by_cases hbj : j < k ∧ bitOf mask j = true
        · rw [if_pos hbj, if_pos ⟨by omega, hbj.2⟩]
        · rw [if_neg hbj, if_neg (fun h2 => hbj ⟨by omega, h2.2⟩)]
    · rw [if_neg hb, hi]
      by_cases hbj : j < k ∧ bitOf mask j = true
      · rw [if_pos hbj, if_pos ⟨by omega, hbj.2⟩]
      · rw [if_neg hbj, if_neg (fun h2 => hbj ⟨by
          rcases Nat.lt_or_ge j k with h3 | h3
          · exact h3
          · obtain rfl : j = k := by omega
            exact absurd h2.2 hb, h2.2⟩)]
theorem tmix_mem (X Y : List Int) (mask : Int) (hX : ∀ x ∈ X, IsByte x) (hY : ∀ x ∈ Y, IsByte x) : ∀ k, ∀ x ∈ tmix X Y mask k, IsByte x := by
  intro k
  induction k with
  | zero => exact hX
  | succ k ih =>
    unfold tmix
    split
    · exact isplice_mem ih (fun x hx => hY x (List.mem_of_mem_drop (List.mem_of_mem_take hx)))
    · exact ih
theorem tmix_none (X Y : List Int) (mask : Int) (h : mask = 0) : ∀ k, tmix X Y mask k = X := by
  intro k
  induction k with
  | zero => rfl
  | succ k ih =>
    unfold tmix
    rw [if_neg (by subst h; simp [bitOf]), ih]
theorem bits_255 (j : Nat) (hj : j < 8) : bitOf 255 j = true := by
  have : j = 0 ∨ j = 1 ∨ j = 2 ∨ j = 3 ∨ j = 4 ∨ j = 5 ∨ j = 6 ∨ j = 7 := by omega
  rcases this with rfl | rfl | rfl | rfl | rfl | rfl | rfl | rfl <;> rfl
theorem tmix_all (X Y : List Int) (hX : X.length = 4096) (hY : Y.length = 4096) : tmix X Y 255 8 = Y :=
  eq_of_sectors (tmix_length X Y 255 hX hY 8 (Nat.le_refl _)) hY fun j hj => by rw [tmix_sector X Y 255 hX hY j hj 8 (Nat.le_refl _), if_pos ⟨hj, bits_255 j hj⟩]
theorem bits_some (mask : Int) (h0 : 0 < mask) (h1 : mask < 255) : (∃ i, i < 8 ∧ bitOf mask i = true) ∧ (∃ j, j < 8 ∧ bitOf mask j = false) := by
  obtain ⟨m, rfl⟩ : ∃ m : Nat, mask = m := ⟨mask.toNat, by omega⟩
  have hm : m < 255 := by omega
  have hm0 : 0 < m := by omega
  have key : ∀ m : Nat, m < 255 → 0 < m → ((List.range 8).any fun i => bitOf (m : Int) i) = true ∧ ((List.range 8).any fun i => !bitOf (m : Int) i) = true := by decide +kernel
  obtain ⟨k1, k2⟩ := key m hm hm0
  obtain ⟨i, hi, hbi⟩ := List.any_eq_true.1 k1
  obtain ⟨j, hj, hbj⟩ := List.any_eq_true.1 k2
  exact ⟨⟨i, List.mem_range.1 hi, hbi⟩, ⟨j, List.mem_range.1 hj, by simpa using hbj⟩⟩
theorem fsec_sector (l : List Int) (k : Nat) : fsec l k = (⟨(sector l k).take 8, false⟩ : Rs).uint.1 := by
  unfold fsec sector
  rw [List.take_take, Nat.min_eq_left (by decide)]
/-- All sectors of a frame bear its stamp. -/
theorem fgetv_heads (z : List Int) (hz : z.length = 4096) (hzb : ∀ x ∈ z, IsByte x) (at_ kind : Int) (i j : Nat) (hi : i < 8) (hj : j < 8) (h : fsec z i ≠ fsec z j) : fgetv z at_ kind = ([], 0, false) := by
  unfold fgetv
  rw [if_neg]
  rintro ⟨_, ⟨h0, h1, h2⟩, he⟩
  have hu := uint_lt (⟨z, false⟩ : Rs) hzb
  obtain ⟨st, hst⟩ : ∃ st, (⟨z, false⟩ : Rs).uint.1 = st := ⟨_, rfl⟩
  rw [hst] at he hu h2
  have hil : (fgin z (List.range 8)).length = 4032 := by rw [fgin_length z hz (List.range 8) (fun j hj => List.mem_range.1 hj)]; rfl
  have hfl := fgb_length (fgin z (List.range 8)) hil (fgin_mem z hzb _)
  have hfr := fcnt_range (fgin z (List.range 8)) (fgin_mem z hzb _)
  have hs : 0 < st ∧ st < top64 := ⟨by omega, hu.2⟩
  have hk : ∀ k, k < 8 → fsec z k = st := fun k hk => by
    have := fsec_frame at_ kind st (fgb (fgin z (List.range 8))) (by omega) hs k hk
    rwa [he] at this
  exact h ((hk i hi).trans (hk j hj).symm)
theorem fold_max (f : Nat → Int) (M : Int) : ∀ (ks : List Nat) (m : Int), m ≤ M → (∀ k ∈ ks, f k ≤ M) → (m = M ∨ ∃ k ∈ ks, f k = M) → ks.foldl (fun m k => if m < f k then f k else m) m = M := by
  intro ks
  induction ks with
  | nil => intro m _ _ h; rcases h with h | ⟨k, hk, _⟩; exact h; cases hk
  | cons k ks ih =>
    intro m hm hk h
    rw [List.foldl_cons]
    have h1 := hk k (List.mem_cons_self ..)
    refine ih _ (by split <;> omega) (fun j hj => hk j (List.mem_cons_of_mem _ hj)) ?_
    rcases h with h | ⟨j, hj, hjM⟩
    · left; split <;> omega
    · rcases List.mem_cons.1 hj with rfl | hj
      · left; split <;> omega
      · exact .inr ⟨j, hj, hjM⟩
theorem fnewv_mix (z : List Int) (hz : z.length = 4096) (s t : Int) (hs : 0 < s) (ht : 0 < t) (h : ∀ k, k < 8 → fsec z k = s ∨ fsec z k = t) (i j : Nat) (hi : i < 8) (hj : j < 8) (hfi : fsec z i = t) (hfj : fsec z j = s) : fnewv z = if s < t then t else s := by
  unfold fnewv
  rw [if_pos hz]
  unfold fnewest
  refine fold_max (fsec z) _ _ _ (by split <;> omega) (fun k hk => ?_) (.inr ?_)
  · rcases h k (List.mem_range.1 hk) with h1 | h1 <;> rw [h1] <;> split <;> omega
  · split
    · exact ⟨i, List.mem_range.2 hi, hfi⟩
    · exact ⟨j, List.mem_range.2 hj, hfj⟩
structure TornFacts (z : List Int) (at_ kind s t mask : Int) (a b : List Int) : Prop where
  none : mask = 0 → fgetv z at_ kind = (a, s, true)
  all : mask = 255 → fgetv z at_ kind = (b, t, true)
  some : mask ≠ 0 → mask ≠ 255 → fgetv z at_ kind = ([], 0, false) ∧ fnewv z = if s < t then t else s
theorem torn_facts (at_ kind s t mask : Int) (a b : List Int) (ha : a.length ≤ 4011) (hb : b.length ≤ 4011) (hab : ∀ x ∈ a, IsByte x) (hbb : ∀ x ∈ b, IsByte x) (hat : 0 ≤ at_ ∧ at_ < 4096) (hk : 0 ≤ kind ∧ kind < 256) (hs : 0 < s ∧ s < top64) (ht : 0 < t ∧ t < top64) (hst : s ≠ t) (hm : 0 ≤ mask ∧ mask < 256) :
    TornFacts (tmix (fframe at_ kind s a) (fframe at_ kind t b) mask 8) at_ kind s t mask a b := by
  have hX := fframe_length at_ kind s a ha
  have hY := fframe_length at_ kind t b hb
  refine ⟨fun h => ?_, fun h => ?_, fun h0 h255 => ?_⟩
  · rw [tmix_none _ _ _ h, fgetv_frame at_ at_ kind kind s a ha hat hk hk hs, if_pos ⟨rfl, rfl⟩]
  · rw [h, tmix_all _ _ hX hY, fgetv_frame at_ at_ kind kind t b hb hat hk hk ht, if_pos ⟨rfl, rfl⟩]
  · obtain ⟨⟨i, hi, hbi⟩, ⟨j, hj, hbj⟩⟩ := bits_some mask (by omega) (by omega)
    have hz := tmix_length _ _ mask hX hY 8 (Nat.le_refl _)
    have hsec : ∀ k, k < 8 → fsec (tmix (fframe at_ kind s a) (fframe at_ kind t b) mask 8) k = if bitOf mask k = true then t else s := by
      intro k hk8
      rw [fsec_sector, tmix_sector _ _ mask hX hY k hk8 8 (Nat.le_refl _)]
      by_cases hb2 : bitOf mask k = true
      · rw [if_pos ⟨hk8, hb2⟩, if_pos hb2, ← fsec_sector, fsec_frame at_ kind t b hb ht k hk8]
      · rw [if_neg (fun h => hb2 h.2), if_neg hb2, ← fsec_sector, fsec_frame at_ kind s a ha hs k hk8]
    have hzb : ∀ x ∈ tmix (fframe at_ kind s a) (fframe at_ kind t b) mask 8, IsByte x := tmix_mem _ _ mask (fframe_bytes _ _ _ _ hab) (fframe_bytes _ _ _ _ hbb) 8
    have e1 := hsec i hi
    have e2 := hsec j hj
    rw [if_pos hbi] at e1
    rw [if_neg (by rw [hbj]; decide)] at e2
    exact ⟨fgetv_heads _ hz hzb at_ kind i j hi hj (by rw [e1, e2]; exact fun e => hst e.symm), fnewv_mix _ hz s t hs.1 ht.1 (fun k hk8 => by rw [hsec k hk8]; split <;> simp) i j hi hj e1 e2⟩
end Go.Proofs.Ytddajglkefpjdaa.Ext
