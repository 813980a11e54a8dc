/- What a frame holds: its sectors, its inside; what was put is got. -/
import Derived.Test.YtddajglkefpjdaaFGet
import Derived.Test.YtddajglkefpjdaaFNew
import Derived.Test.YtddajglkefpjdaaWMath
namespace Go.Proofs.Ytddajglkefpjdaa.Ext
open Go.RowKit Go.Proofs.YtddajglkefpjdaaW.PrintWords Go.Proofs.YtddajglkefpjdaaW.PrintLast Go.Proofs.YtddajglkefpjdaaW.PrintMore Go.Proofs.YtddajglkefpjdaaW.Hand
set_option linter.unusedVariables false
theorem take_ap {a b : List Int} {n : Nat} (h : a.length = n) : (a ++ b).take n = a := by subst h; exact List.take_left
theorem drop_ap {a b : List Int} {n : Nat} (h : a.length = n) : (a ++ b).drop n = b := by subst h; exact List.drop_left
theorem zs_drop (n m : Nat) : (zs n).drop m = zs (n - m) := by unfold zs; exact List.drop_replicate
theorem zs_add (a b : Nat) : zs (a + b) = zs a ++ zs b := by unfold zs; exact (List.replicate_append_replicate ..).symm
theorem isplice_at (P : List Int) (m : Nat) (xs : List Int) (h : xs.length ≤ m) : isplice (P ++ zs m) P.length xs = (P ++ xs) ++ zs (m - xs.length) := by
  unfold isplice
  rw [List.take_left, ← List.drop_drop, List.drop_left, zs_drop, List.append_assoc]
def fsect (s : Int) (inn : List Int) (k : Nat) : List Int := beN 8 s ++ (inn.drop (504 * k)).take 504
def fsecs (s : Int) (inn : List Int) (j : Nat) : List Int := ((List.range j).map (fsect s inn)).flatten
theorem fsecs_succ (s : Int) (inn : List Int) (j : Nat) : fsecs s inn (j + 1) = fsecs s inn j ++ fsect s inn j := by simp [fsecs, List.range_succ]
theorem fsect_length (s : Int) (inn : List Int) (hi : inn.length = 4032) (k : Nat) (hk : k < 8) : (fsect s inn k).length = 512 := by
  unfold fsect; rw [List.length_append, beN_length, List.length_take, List.length_drop, hi]; omega
theorem fsecs_length (s : Int) (inn : List Int) (hi : inn.length = 4032) : ∀ j, j ≤ 8 → (fsecs s inn j).length = 512 * j := by
  intro j
  induction j with
  | zero => intro _; rfl
  | succ j ih => intro h; rw [fsecs_succ, List.length_append, ih (by omega), fsect_length s inn hi j (by omega)]; omega
theorem fpage_secs (s : Int) (inn : List Int) (hi : inn.length = 4032) : ∀ j, j ≤ 8 → fpage s inn (List.range j) = fsecs s inn j ++ zs (4096 - 512 * j) := by
  intro j
  induction j with
  | zero => intro _; rfl
  | succ j ih =>
    intro h
    rw [List.range_succ, fpage_snoc, ih (by omega)]
    unfold fround
    have hl := fsecs_length s inn hi j (by omega)
    have e1 := isplice_at (fsecs s inn j) (4096 - 512 * j) (beN 8 s) (by rw [beN_length]; omega)
    rw [hl, beN_length] at e1
    rw [e1]
    have hl2 : (fsecs s inn j ++ beN 8 s).length = 512 * j + 8 := by rw [List.length_append, hl, beN_length]
    have hl3 : ((inn.drop (504 * j)).take 504).length = 504 := by rw [List.length_take, List.length_drop, hi]; omega
    have e2 := isplice_at (fsecs s inn j ++ beN 8 s) (4096 - 512 * j - 8) ((inn.drop (504 * j)).take 504) (by rw [hl3]; omega)
    rw [hl2, hl3] at e2
    rw [e2, fsecs_succ]
    unfold fsect
    rw [List.append_assoc (fsecs s inn j), show 4096 - 512 * j - 8 - 504 = 4096 - 512 * (j + 1) by omega]
theorem fpage_eq (s : Int) (inn : List Int) (hi : inn.length = 4032) : fpage s inn (List.range 8) = fsecs s inn 8 := by
  rw [fpage_secs s inn hi 8 (Nat.le_refl _)]
  simp [zs]
theorem fsecs_part (s : Int) (inn : List Int) (k : Nat) : ∀ j, k < j → ∃ rest, fsecs s inn j = fsecs s inn k ++ (fsect s inn k ++ rest) := by
  intro j
  induction j with
  | zero => intro h; omega
  | succ j ih =>
    intro h
    rw [fsecs_succ]
    by_cases hk : k = j
    · subst hk; exact ⟨[], by rw [List.append_nil]⟩
    · obtain ⟨rest, hr⟩ := ih (by omega)
      exact ⟨rest ++ fsect s inn j, by rw [hr]; simp⟩
theorem fpage_head (s : Int) (inn : List Int) (hi : inn.length = 4032) (k : Nat) (hk : k < 8) : ((fpage s inn (List.range 8)).drop (512 * k)).take 8 = beN 8 s := by
  obtain ⟨rest, hr⟩ := fsecs_part s inn k 8 hk
  rw [fpage_eq s inn hi, hr, ← fsecs_length s inn hi k (by omega), List.drop_left]
  unfold fsect
  rw [List.append_assoc, List.take_append_of_le_length (by rw [beN_length]; exact Nat.le_refl _), List.take_of_length_le (by rw [beN_length]; exact Nat.le_refl _)]
theorem fpage_rest (s : Int) (inn : List Int) (hi : inn.length = 4032) (k : Nat) (hk : k < 8) : ((fpage s inn (List.range 8)).drop (512 * k + 8)).take 504 = (inn.drop (504 * k)).take 504 := by
  obtain ⟨rest, hr⟩ := fsecs_part s inn k 8 hk
  have h8 : (beN 8 s).length = 8 := beN_length _ _
  rw [fpage_eq s inn hi, hr, ← List.drop_drop, ← fsecs_length s inn hi k (by omega), List.drop_left]
  unfold fsect
  rw [List.append_assoc]
  rw [drop_ap h8]
  have h504 : ((inn.drop (504 * k)).take 504).length = 504 := by rw [List.length_take, List.length_drop, hi]; omega
  rw [List.take_append_of_le_length (by omega), List.take_of_length_le (by omega)]
theorem chunks_take (inn : List Int) : ∀ j, ((List.range j).map fun k => (inn.drop (504 * k)).take 504).flatten = inn.take (504 * j) := by
  intro j
  induction j with
  | zero => simp
  | succ j ih => rw [List.range_succ, List.map_append, List.flatten_append, ih, show 504 * (j + 1) = 504 * j + 504 by omega, List.take_add]; simp
theorem fgin_page (s : Int) (inn : List Int) (hi : inn.length = 4032) : fgin (fpage s inn (List.range 8)) (List.range 8) = inn := by
  unfold fgin
  have e : (List.range 8).map (fun k => ((fpage s inn (List.range 8)).drop (512 * k + 8)).take 504) = (List.range 8).map (fun k => (inn.drop (504 * k)).take 504) := by
    apply List.map_congr_left
    intro k hk
    exact fpage_rest s inn hi k (List.mem_range.1 hk)
  rw [e, chunks_take, List.take_of_length_le (by omega)]
theorem uint_of (l : List Int) (h : 8 ≤ l.length) : (⟨l, false⟩ : Rs).uint = (beVal (l.take 8), ⟨l.drop 8, false⟩) := by
  unfold Rs.uint
  rw [Rs.take_yes (by simp; omega)]
theorem byte_of (l : List Int) (h : 1 ≤ l.length) : (⟨l, false⟩ : Rs).byte.2 = ⟨l.drop 1, false⟩ := by
  rw [byte_two, Rs.take_yes (by simp only [not_or]; exact ⟨by decide, by show ¬ l.length < 1; omega⟩)]
theorem beVal_8 (s : Int) (h0 : 0 ≤ s) (h1 : s < top64) : beVal (beN 8 s) = s := beVal_beN_lt 8 s h0 h1
theorem fin0_eq (at_ kind : Int) (b : List Int) (h : b.length ≤ 4011) : fin0 at_ kind b = fhead at_ kind b ++ zs (4015 - b.length) := by
  unfold fin0
  have := isplice_at [] 4032 (fhead at_ kind b) (by rw [fhead_length]; omega)
  rw [List.nil_append, List.length_nil] at this
  rw [this, List.nil_append, fhead_length, show 4032 - (17 + b.length) = 4015 - b.length by omega]
def fdata (at_ kind : Int) (b : List Int) : List Int := fhead at_ kind b ++ zs (4011 - b.length)
theorem fdata_length (at_ kind : Int) (b : List Int) (h : b.length ≤ 4011) : (fdata at_ kind b).length = 4028 := by unfold fdata; rw [List.length_append, fhead_length, zs_length]; omega
theorem fin0_take (at_ kind : Int) (b : List Int) (h : b.length ≤ 4011) : (fin0 at_ kind b).take 4028 = fdata at_ kind b := by
  rw [fin0_eq at_ kind b h, show 4015 - b.length = (4011 - b.length) + 4 by omega, zs_add, ← List.append_assoc]
  have hl := fdata_length at_ kind b h
  unfold fdata at hl ⊢
  rw [List.take_append_of_le_length (by omega), List.take_of_length_le (by omega)]
theorem fin_eq (at_ kind stamp : Int) (b : List Int) (h : b.length ≤ 4011) : fin at_ kind stamp b = fdata at_ kind b ++ fcheck stamp (fdata at_ kind b) := by
  unfold fin isplice
  rw [fin0_take at_ kind b h, fcheck_length, List.drop_of_length_le (by rw [fin0_length at_ kind b h]; exact Nat.le_refl _), List.append_nil]
theorem fin_parts (at_ kind stamp : Int) (b : List Int) (h : b.length ≤ 4011) : ∃ rest, fin at_ kind stamp b = beN 8 at_ ++ (beN 1 kind ++ (beN 8 b.length ++ (b ++ rest))) := by
  refine ⟨zs (4011 - b.length) ++ fcheck stamp (fdata at_ kind b), ?_⟩
  rw [fin_eq at_ kind stamp b h]
  unfold fdata fhead
  simp only [List.append_assoc]
theorem fcnt_fin (at_ kind stamp : Int) (b : List Int) (h : b.length ≤ 4011) : fcnt (fin at_ kind stamp b) = b.length := by
  have hl := fin_length at_ kind stamp b h
  obtain ⟨rest, hr⟩ := fin_parts at_ kind stamp b h
  have h1 : ((fin at_ kind stamp b).drop 8).drop 1 = beN 8 b.length ++ (b ++ rest) := by rw [hr, drop_ap (beN_length _ _), drop_ap (beN_length _ _)]
  unfold fcnt
  rw [uint_of _ (by omega)]
  dsimp only
  rw [byte_of _ (by rw [List.length_drop]; omega), h1]
  unfold Rs.count
  rw [uint_of _ (by rw [List.length_append, beN_length]; omega)]
  dsimp only
  rw [take_ap (beN_length _ _), beVal_8 _ (by omega) (by unfold top64; omega), if_neg (by omega)]
theorem fgb_fin (at_ kind stamp : Int) (b : List Int) (h : b.length ≤ 4011) : fgb (fin at_ kind stamp b) = b := by
  obtain ⟨rest, hr⟩ := fin_parts at_ kind stamp b h
  unfold fgb
  rw [fcnt_fin at_ kind stamp b h, Int.toNat_natCast, hr]
  have e : beN 8 at_ ++ (beN 1 kind ++ (beN 8 b.length ++ (b ++ rest))) = (beN 8 at_ ++ (beN 1 kind ++ beN 8 b.length)) ++ (b ++ rest) := by simp
  rw [e, drop_ap (by rw [List.length_append, List.length_append, beN_length, beN_length, beN_length]), take_ap rfl]
theorem fuint_page (s : Int) (inn : List Int) (hi : inn.length = 4032) (h0 : 0 ≤ s) (h1 : s < top64) : (⟨fpage s inn (List.range 8), false⟩ : Rs).uint.1 = s := by
  have hl := fpage_length s inn hi (List.range 8) (fun k hk => List.mem_range.1 hk)
  rw [uint_of _ (by omega)]
  have := fpage_head s inn hi 0 (by decide)
  rw [Nat.mul_zero, List.drop_zero] at this
  dsimp only
  rw [this, beVal_8 s h0 h1]
theorem beN8_inj {a b : Int} (ha : 0 ≤ a ∧ a < top64) (hb : 0 ≤ b ∧ b < top64) (h : beN 8 a = beN 8 b) : a = b := by
  have := congrArg beVal h
  rwa [beVal_8 a ha.1 ha.2, beVal_8 b hb.1 hb.2] at this
theorem fframe_inj {at_ at2 kind kind2 s : Int} {b : List Int} (h : b.length ≤ 4011) (ha : 0 ≤ at_ ∧ at_ < 4096) (ha2 : 0 ≤ at2 ∧ at2 < 4096) (hk : 0 ≤ kind ∧ kind < 256) (hk2 : 0 ≤ kind2 ∧ kind2 < 256) (he : fframe at_ kind s b = fframe at2 kind2 s b) : at_ = at2 ∧ kind = kind2 := by
  have e := congrArg (fun p => fgin p (List.range 8)) he
  dsimp only [fframe] at e
  rw [fgin_page s _ (fin_length _ _ _ _ h), fgin_page s _ (fin_length _ _ _ _ h)] at e
  obtain ⟨r1, h1⟩ := fin_parts at_ kind s b h
  obtain ⟨r2, h2⟩ := fin_parts at2 kind2 s b h
  rw [h1, h2] at e
  have e1 := congrArg (List.take 8) e
  rw [take_ap (beN_length _ _), take_ap (beN_length _ _)] at e1
  have e2 := congrArg (fun l => (List.drop 8 l).take 1) e
  rw [drop_ap (beN_length _ _), drop_ap (beN_length _ _), take_ap (beN_length _ _), take_ap (beN_length _ _)] at e2
  refine ⟨beN8_inj ⟨ha.1, by unfold top64; omega⟩ ⟨ha2.1, by unfold top64; omega⟩ e1, ?_⟩
  have := congrArg beVal e2
  rwa [beVal_beN_lt 1 kind hk.1 (by omega), beVal_beN_lt 1 kind2 hk2.1 (by omega)] at this
/-- What was put is got, at its own place, as its own kind, and nowhere else. -/
theorem fgetv_frame (at_ at2 kind kind2 s : Int) (b : List Int) (h : b.length ≤ 4011) (ha : 0 ≤ at_ ∧ at_ < 4096) (hk : 0 ≤ kind ∧ kind < 256) (hk2 : 0 ≤ kind2 ∧ kind2 < 256) (hs : 0 < s ∧ s < top64) :
    fgetv (fframe at_ kind s b) at2 kind2 = if at2 = at_ ∧ kind2 = kind then (b, s, true) else ([], 0, false) := by
  have hu : (⟨fframe at_ kind s b, false⟩ : Rs).uint.1 = s := fuint_page s _ (fin_length _ _ _ _ h) (by omega) hs.2
  have hg : fgin (fframe at_ kind s b) (List.range 8) = fin at_ kind s b := fgin_page s _ (fin_length _ _ _ _ h)
  unfold fgetv
  rw [hu, hg, fgb_fin at_ kind s b h]
  by_cases hc : at2 = at_ ∧ kind2 = kind
  · obtain ⟨rfl, rfl⟩ := hc
    rw [if_pos ⟨fframe_length _ _ _ _ h, ⟨ha.1, ha.2, by omega⟩, rfl⟩, if_pos ⟨rfl, rfl⟩]
  · rw [if_neg hc, if_neg (fun h2 => hc ?_)]
    exact fframe_inj h ⟨h2.2.1.1, h2.2.1.2.1⟩ ha hk2 hk h2.2.2
theorem fsec_frame (at_ kind s : Int) (b : List Int) (h : b.length ≤ 4011) (hs : 0 < s ∧ s < top64) (k : Nat) (hk : k < 8) : fsec (fframe at_ kind s b) k = s := by
  unfold fsec fframe
  rw [fpage_head s _ (fin_length _ _ _ _ h) k hk, uint_of _ (by rw [beN_length]; exact Nat.le_refl _), List.take_of_length_le (by rw [beN_length]; exact Nat.le_refl _)]
  exact beVal_8 s (by omega) hs.2
theorem fnewest_all (page : List Int) (s : Int) (h : ∀ k, k < 8 → fsec page k = s) (hs : 0 < s) : fnewest page (List.range 8) = s := by
  have e : List.range 8 = [0, 1, 2, 3, 4, 5, 6, 7] := rfl
  unfold fnewest
  rw [e]
  simp only [List.foldl_cons, List.foldl_nil, h 0 (by decide), h 1 (by decide), h 2 (by decide), h 3 (by decide), h 4 (by decide), h 5 (by decide), h 6 (by decide), h 7 (by decide)]
  simp [hs]
theorem fnewv_frame (at_ kind s : Int) (b : List Int) (h : b.length ≤ 4011) (hs : 0 < s ∧ s < top64) : fnewv (fframe at_ kind s b) = s := by
  unfold fnewv
  rw [if_pos (fframe_length _ _ _ _ h)]
  exact fnewest_all _ s (fun k hk => fsec_frame at_ kind s b h hs k hk) hs.1
end Go.Proofs.Ytddajglkefpjdaa.Ext
