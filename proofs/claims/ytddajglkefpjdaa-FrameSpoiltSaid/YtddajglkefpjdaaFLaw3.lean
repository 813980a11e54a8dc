/- Four bytes that become other ones spoil a page. -/
import Derived.Test.YtddajglkefpjdaaFLaw2
namespace Go.Proofs.Ytddajglkefpjdaa.Ext
open Go.RowKit Go.Proofs.YtddajglkefpjdaaW.PrintWords Go.Proofs.YtddajglkefpjdaaW.PrintLast Go.Proofs.YtddajglkefpjdaaW.PrintMore Go.Proofs.YtddajglkefpjdaaW.Hand
set_option linter.unusedVariables false
theorem not_xor (m : Nat) (h : m < 4294967296) : 4294967295 ^^^ m = 4294967295 - m := by
  have h1 := u32_not m h
  have h2 : bits .xor .u32 (((4294967295 : Nat)) : Int) (m : Int) = ((4294967295 ^^^ m : Nat) : Int) := u32_xor_nat 4294967295 m (by decide) h
  have h3 : IntKind.u32.max = ((4294967295 : Nat) : Int) := rfl
  rw [h3, h2] at h1
  omega
theorem crc_whole (s : Int) (d : List Int) : crcBytes 4294967295 (beN 8 s ++ (d ++ fcheck s d)) = steps 32 4294967295 := by
  rw [← List.append_assoc]
  unfold crcBytes
  rw [List.foldl_append]
  show crcBytes (crcBytes 4294967295 (beN 8 s ++ d)) (fcheck s d) = _
  unfold fcheck
  have hm := crcBytes_lt (beN 8 s ++ d) 4294967295 (by decide)
  obtain ⟨m, hm2⟩ : ∃ m, crcBytes 4294967295 (beN 8 s ++ d) = m := ⟨_, rfl⟩
  rw [hm2] at hm ⊢
  rw [crcBytes_steps m _ (placeOf_bytes _), leNum_placeOf _ (by omega) (by omega)]
  have e : (4294967295 - (m : Int)).toNat = 4294967295 - m := by omega
  rw [e, ← not_xor m hm, Nat.xor_comm 4294967295 m, ← Nat.xor_assoc, Nat.xor_self, Nat.zero_xor]
  rfl
theorem crc_window (n : Nat) (pre X Y Q : List Int) (hp : ∀ c ∈ pre, IsByte c) (hx : ∀ c ∈ X, IsByte c) (hy : ∀ c ∈ Y, IsByte c) (hq : ∀ c ∈ Q, IsByte c) (lx : X.length = 4) (ly : Y.length = 4)
    (h : crcBytes n (pre ++ (X ++ Q)) = crcBytes n (pre ++ (Y ++ Q))) : X = Y := by
  have hb1 : ∀ c ∈ pre ++ (X ++ Q), IsByte c := fun c hc => by
    rcases List.mem_append.1 hc with hc | hc
    · exact hp c hc
    · rcases List.mem_append.1 hc with hc | hc
      · exact hx c hc
      · exact hq c hc
  have hb2 : ∀ c ∈ pre ++ (Y ++ Q), IsByte c := fun c hc => by
    rcases List.mem_append.1 hc with hc | hc
    · exact hp c hc
    · rcases List.mem_append.1 hc with hc | hc
      · exact hy c hc
      · exact hq c hc
  have hxl := leNum_four_lt X lx hx
  have hyl := leNum_four_lt Y ly hy
  have hd : leNum (pre ++ (X ++ Q)) ^^^ leNum (pre ++ (Y ++ Q)) = 2 ^ (8 * pre.length) * (leNum X ^^^ leNum Y) := by
    rw [leNum_append, leNum_append pre, leNum_append X, leNum_append Y, lx, ly, pow_mul_xor, pow_mul_xor, pow_mul_xor]
    have key : ∀ a b c d : Nat, (a ^^^ (b ^^^ d)) ^^^ (a ^^^ (c ^^^ d)) = b ^^^ c := by
      intro a b c d
      rw [Nat.xor_comm a (b ^^^ d), Nat.xor_assoc, ← Nat.xor_assoc a a, Nat.xor_self, Nat.zero_xor, Nat.xor_comm c d, Nat.xor_assoc, ← Nat.xor_assoc d d, Nat.xor_self, Nat.zero_xor]
    exact key _ _ _ _
  have := (crc_same n (8 * pre.length) (leNum X ^^^ leNum Y) _ _ hb1 hb2 (by simp [lx, ly]) (by rw [List.length_append]; omega) (Nat.xor_lt_two_pow (n := 32) hxl hyl) hd).1 h
  exact leNum_four_inj X Y lx ly hx hy ((xor_zero_iff _ _).1 this)
theorem isplice_get (l s : List Int) (i : Nat) (h : i + s.length ≤ l.length) (p : Nat) : (isplice l i s)[p]? = if p < i then l[p]? else if p < i + s.length then s[p - i]? else l[p]? := by
  unfold isplice
  have hlt : (l.take i).length = i := by rw [List.length_take]; omega
  rw [List.getElem?_append]
  split
  · rename_i h1
    rw [hlt] at h1
    rw [List.getElem?_take, if_pos h1, if_pos h1]
  · rename_i h1
    rw [hlt] at h1
    rw [if_neg h1, hlt, List.getElem?_append]
    split
    · rename_i h2; rw [if_pos (by omega)]
    · rename_i h2
      rw [if_neg (by omega), List.getElem?_drop]
      congr 1
      omega
theorem part_get (l : List Int) (a n r : Nat) (h : r < n) : ((l.drop a).take n)[r]? = l[a + r]? := by
  rw [List.getElem?_take, if_pos h, List.getElem?_drop]
theorem inn_get (s : Int) (inn : List Int) (hi : inn.length = 4032) (j r : Nat) (hj : j < 8) (hr : r < 504) : inn[504 * j + r]? = (fpage s inn (List.range 8))[512 * j + 8 + r]? := by
  have h := congrArg (fun l : List Int => l[r]?) (fpage_rest s inn hi j hj)
  rw [part_get _ _ _ _ hr, part_get _ _ _ _ hr] at h
  exact h.symm
theorem head_same (page word : List Int) (hp : page.length = 4096) (hw : word.length = 4) (k : Nat) (hk : k ≤ 4092) (j : Nat) (hj : j < 8) (h : 512 * j + 8 ≤ k ∨ k + 4 ≤ 512 * j) : fsec (isplice page k word) j = fsec page j := by
  unfold fsec
  have e : ((isplice page k word).drop (512 * j)).take 8 = (page.drop (512 * j)).take 8 := by
    apply List.ext_getElem?
    intro r
    by_cases hr : r < 8
    · rw [part_get _ _ _ _ hr, part_get _ _ _ _ hr, isplice_get page word k (by omega), hw]
      split
      · rfl
      · rw [if_neg (by omega)]
    · rw [List.getElem?_eq_none (by rw [List.length_take]; omega), List.getElem?_eq_none (by rw [List.length_take]; omega)]
  rw [e]
/-- What was there stays: the page is the same. -/
theorem isplice_same (page : List Int) (k : Nat) (hk : k + 4 ≤ page.length) : isplice page k ((page.drop k).take 4) = page := by
  apply List.ext_getElem?
  intro p
  have hl : ((page.drop k).take 4).length = 4 := by rw [List.length_take, List.length_drop]; omega
  rw [isplice_get page _ k (by omega), hl]
  split
  · rfl
  · split
    · rw [part_get _ _ _ _ (by omega)]; congr 1; omega
    · rfl
theorem isplice_part (page word : List Int) (hw : word.length = 4) (k : Nat) (hk : k + 4 ≤ page.length) : ((isplice page k word).drop k).take 4 = word := by
  apply List.ext_getElem?
  intro r
  by_cases hr : r < 4
  · rw [part_get _ _ _ _ hr, isplice_get page word k (by omega), hw, if_neg (by omega), if_pos (by omega)]; congr 1; omega
  · rw [List.getElem?_eq_none (by rw [List.length_take]; omega), List.getElem?_eq_none (by omega)]
theorem cut3 (l : List Int) (p : Nat) : l = l.take p ++ ((l.drop p).take 4 ++ l.drop (p + 4)) := by
  rw [← List.drop_drop, List.take_append_drop, List.take_append_drop]
set_option maxRecDepth 100000 in
theorem spoilt (at_ kind s : Int) (b word : List Int) (hb : b.length ≤ 4011) (hbb : ∀ x ∈ b, IsByte x) (hs : 0 < s ∧ s < top64) (hw : word.length = 4) (hwb : ∀ x ∈ word, IsByte x) (k : Nat) (hk : k ≤ 4092)
    (hne : word ≠ ((fframe at_ kind s b).drop k).take 4) : fgetv (isplice (fframe at_ kind s b) k word) at_ kind = ([], 0, false) := by
  have hpl := fframe_length at_ kind s b hb
  have hpb := fframe_bytes at_ kind s b hbb
  have hpe : fframe at_ kind s b = fpage s (fin at_ kind s b) (List.range 8) := rfl
  have hfs := fsec_frame at_ kind s b hb hs
  obtain ⟨page, hpage⟩ : ∃ l, fframe at_ kind s b = l := ⟨_, rfl⟩
  rw [hpage] at hpl hpb hpe hfs hne ⊢
  have hzl : (isplice page k word).length = 4096 := by rw [isplice_length _ _ _ (by omega), hpl]
  have hzb : ∀ x ∈ isplice page k word, IsByte x := isplice_mem hpb hwb
  unfold fgetv
  rw [if_neg]
  rintro ⟨_, ⟨h0, h1, h2⟩, he⟩
  have hu := uint_lt (⟨isplice page k word, false⟩ : Rs) hzb
  obtain ⟨st, hst⟩ : ∃ st, (⟨isplice page k word, false⟩ : Rs).uint.1 = st := ⟨_, rfl⟩
  rw [hst] at he hu h2
  have hil : (fgin (isplice page k word) (List.range 8)).length = 4032 := by rw [fgin_length _ hzl (List.range 8) (fun j hj => List.mem_range.1 hj)]; rfl
  have hfl := fgb_length _ hil (fgin_mem _ hzb _)
  have hfr := fcnt_range _ (fgin_mem _ hzb (List.range 8))
  have hbb2 : ∀ x ∈ fgb (fgin (isplice page k word) (List.range 8)), IsByte x := fun x hx => fgin_mem _ hzb _ x (List.mem_of_mem_drop (List.mem_of_mem_take hx))
  obtain ⟨bb, hbbe⟩ : ∃ l, fgb (fgin (isplice page k word) (List.range 8)) = l := ⟨_, rfl⟩
  rw [hbbe] at he hfl hbb2
  have hbl : bb.length ≤ 4011 := by omega
  have hs2 : 0 < st ∧ st < top64 := ⟨by omega, hu.2⟩
  have hz2 := fsec_frame at_ kind st bb hbl hs2
  rw [he] at hz2
  have hss : st = s := by
    rcases Nat.lt_or_ge k 8 with h8 | h8
    · rw [← hz2 1 (by decide), head_same page word hpl hw k hk 1 (by decide) (.inr (by omega)), hfs 1 (by decide)]
    · rw [← hz2 0 (by decide), head_same page word hpl hw k hk 0 (by decide) (.inl (by omega)), hfs 0 (by decide)]
  subst hss
  have hze : fpage st (fin at_ kind st bb) (List.range 8) = isplice page k word := he
  have hin := fin_length at_ kind st b hb
  have hin2 := fin_length at_ kind st bb hbl
  have hinb := fin_mem at_ kind st b hbb
  have hinb2 := fin_mem at_ kind st bb hbb2
  have hc1 := crc_whole st (fdata at_ kind b)
  have hc2 := crc_whole st (fdata at_ kind bb)
  rw [← fin_eq at_ kind st b hb] at hc1
  rw [← fin_eq at_ kind st bb hbl] at hc2
  obtain ⟨inn, hinn⟩ : ∃ l, fin at_ kind st b = l := ⟨_, rfl⟩
  obtain ⟨inn2, hinn2⟩ : ∃ l, fin at_ kind st bb = l := ⟨_, rfl⟩
  rw [hinn] at hpe hin hinb hc1
  rw [hinn2] at hze hin2 hinb2 hc2
  obtain ⟨q0, r0, hk0, hr0⟩ : ∃ q0 r0, k = 512 * q0 + r0 ∧ r0 < 512 := ⟨k / 512, k % 512, by omega, by omega⟩
  obtain ⟨p, hp⟩ : ∃ p, p = if 8 ≤ r0 then 504 * q0 + (r0 - 8) else 504 * q0 := ⟨_, rfl⟩
  have hp4 : p + 4 ≤ 4032 := by rw [hp]; split <;> omega
  have hsame : ∀ i, i < 4032 → (i < p ∨ p + 4 ≤ i) → inn2[i]? = inn[i]? := by
    intro i hi hc
    obtain ⟨j, r, hij, hr⟩ : ∃ j r, i = 504 * j + r ∧ r < 504 := ⟨i / 504, i % 504, by omega, by omega⟩
    have hj : j < 8 := by omega
    rw [hij, inn_get st inn hin j r hj hr, inn_get st inn2 hin2 j r hj hr, hze, ← hpe, isplice_get page word k (by omega), hw]
    split
    · rfl
    · rw [if_neg]
      intro h3
      rw [hp] at hc
      rcases Nat.lt_trichotomy j q0 with h4 | h4 | h4
      · split at hc <;> omega
      · subst h4; split at hc <;> omega
      · split at hc <;> omega
  have e1 : inn2.take p = inn.take p := by
    apply List.ext_getElem?
    intro i
    rw [List.getElem?_take, List.getElem?_take]
    split
    · exact hsame i (by omega) (.inl (by assumption))
    · rfl
  have e2 : inn2.drop (p + 4) = inn.drop (p + 4) := by
    apply List.ext_getElem?
    intro i
    rw [List.getElem?_drop, List.getElem?_drop]
    by_cases hi : p + 4 + i < 4032
    · exact hsame _ hi (.inr (by omega))
    · rw [List.getElem?_eq_none (by omega), List.getElem?_eq_none (by omega)]
  have c1 := cut3 inn p
  have c2 := cut3 inn2 p
  rw [e1, e2] at c2
  have hX : (inn.drop p).take 4 = (inn2.drop p).take 4 := by
    rw [c1, ← List.append_assoc] at hc1
    rw [c2, ← List.append_assoc] at hc2
    refine crc_window 4294967295 (beN 8 st ++ inn.take p) _ _ (inn.drop (p + 4)) ?_ ?_ ?_ ?_ ?_ ?_ (hc1.trans hc2.symm)
    · intro c hc
      rcases List.mem_append.1 hc with hc | hc
      · exact beN_mem _ _ c hc
      · exact hinb c (List.mem_of_mem_take hc)
    · exact fun c hc => hinb c (List.mem_of_mem_drop (List.mem_of_mem_take hc))
    · exact fun c hc => hinb2 c (List.mem_of_mem_drop (List.mem_of_mem_take hc))
    · exact fun c hc => hinb c (List.mem_of_mem_drop hc)
    · rw [List.length_take, List.length_drop, hin]; omega
    · rw [List.length_take, List.length_drop, hin2]; omega
  rw [← hX, ← c1] at c2
  rw [c2, ← hpe] at hze
  apply hne
  have := isplice_part page word hw k (by omega)
  rw [← hze] at this
  exact this.symm
end Go.Proofs.Ytddajglkefpjdaa.Ext
