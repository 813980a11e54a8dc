/- What a frame is, as lists of bytes. -/
import Derived.Test.YtddajglkefpjdaaCpy
import Derived.Test.YtddajglkefpjdaaChk4
namespace Go.Proofs.Ytddajglkefpjdaa.Ext
open Go.RowKit Go.Proofs.YtddajglkefpjdaaW.PrintWords Go.Proofs.YtddajglkefpjdaaW.PrintLast Go.Proofs.YtddajglkefpjdaaW.PrintMore Go.Proofs.YtddajglkefpjdaaW.Hand
set_option linter.unusedVariables false
/-- So many zeros. -/
def zs (n : Nat) : List Int := List.replicate n 0
theorem zs_length (n : Nat) : (zs n).length = n := by unfold zs; exact List.length_replicate
theorem nums_zs (n : Nat) : nums .u8 (zs n) = List.replicate n (Value.int .u8 0) := by unfold nums zs; rw [List.map_replicate]
def fhead (at_ kind : Int) (b : List Int) : List Int := ((beN 8 at_ ++ beN 1 kind) ++ beN 8 b.length) ++ b
theorem fhead_length (at_ kind : Int) (b : List Int) : (fhead at_ kind b).length = 17 + b.length := by
  unfold fhead; rw [List.length_append, List.length_append, List.length_append, beN_length, beN_length, beN_length]
def fin0 (at_ kind : Int) (b : List Int) : List Int := isplice (zs 4032) 0 (fhead at_ kind b)
theorem fin0_length (at_ kind : Int) (b : List Int) (h : b.length ≤ 4011) : (fin0 at_ kind b).length = 4032 := by
  unfold fin0; rw [isplice_length _ _ _ (by rw [fhead_length, zs_length]; omega), zs_length]
def fin (at_ kind stamp : Int) (b : List Int) : List Int := isplice (fin0 at_ kind b) 4028 (fcheck stamp ((fin0 at_ kind b).take 4028))
theorem fin_length (at_ kind stamp : Int) (b : List Int) (h : b.length ≤ 4011) : (fin at_ kind stamp b).length = 4032 := by
  unfold fin; rw [isplice_length _ _ _ (by rw [fin0_length _ _ _ h, fcheck_length]; decide), fin0_length _ _ _ h]
/-- One sector more. -/
def fround (stamp : Int) (inn page : List Int) (k : Nat) : List Int := isplice (isplice page (512 * k) (beN 8 stamp)) (512 * k + 8) ((inn.drop (504 * k)).take 504)
theorem fround_length (stamp : Int) (inn page : List Int) (k : Nat) (hk : k < 8) (hi : inn.length = 4032) (hp : page.length = 4096) : (fround stamp inn page k).length = 4096 := by
  unfold fround
  rw [isplice_length, isplice_length, hp]
  · rw [beN_length, hp]; omega
  · rw [isplice_length _ _ _ (by rw [beN_length, hp]; omega), hp, List.length_take, List.length_drop, hi]; omega
def fpage (stamp : Int) (inn : List Int) (ks : List Nat) : List Int := ks.foldl (fround stamp inn) (zs 4096)
theorem fpage_snoc (stamp : Int) (inn : List Int) (ks : List Nat) (k : Nat) : fpage stamp inn (ks ++ [k]) = fround stamp inn (fpage stamp inn ks) k := by simp [fpage]
theorem foldl_fround_length (stamp : Int) (inn : List Int) (hi : inn.length = 4032) : ∀ (ks : List Nat) (page : List Int), (∀ k ∈ ks, k < 8) → page.length = 4096 → (ks.foldl (fround stamp inn) page).length = 4096 := by
  intro ks
  induction ks with
  | nil => intro page _ h; exact h
  | cons k ks ih =>
    intro page h hp
    exact ih _ (fun j hj => h j (List.mem_cons_of_mem _ hj)) (fround_length stamp inn page k (h k (List.mem_cons_self ..)) hi hp)
theorem fpage_length (stamp : Int) (inn : List Int) (hi : inn.length = 4032) (ks : List Nat) (h : ∀ k ∈ ks, k < 8) : (fpage stamp inn ks).length = 4096 :=
  foldl_fround_length stamp inn hi ks (zs 4096) h (zs_length _)
/-- A frame. -/
def fframe (at_ kind stamp : Int) (b : List Int) : List Int := fpage stamp (fin at_ kind stamp b) (List.range 8)
theorem fframe_length (at_ kind stamp : Int) (b : List Int) (h : b.length ≤ 4011) : (fframe at_ kind stamp b).length = 4096 :=
  fpage_length stamp _ (fin_length at_ kind stamp b h) (List.range 8) (fun k hk => List.mem_range.1 hk)
end Go.Proofs.Ytddajglkefpjdaa.Ext
