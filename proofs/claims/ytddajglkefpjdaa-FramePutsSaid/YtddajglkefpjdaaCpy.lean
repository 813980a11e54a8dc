/- 'copy' of bytes as one step of a region that draws its order; what else lies in memory stays. -/
import Derived.Test.YtddajglkefpjdaaRead
import Derived.Laws.CopyOwn
namespace Go.Proofs.Ytddajglkefpjdaa.Ext
open Go.RowKit Go.Proofs.YtddajglkefpjdaaW.PrintWords Go.Proofs.YtddajglkefpjdaaW.PrintLast Go.Proofs.YtddajglkefpjdaaW.PrintMore Go.Proofs.YtddajglkefpjdaaW.Hand
set_option linter.unusedVariables false
/-- A row of bytes behind a copy. -/
def isplice (cur : List Int) (off : Nat) (xs : List Int) : List Int := cur.take off ++ (xs ++ cur.drop (off + xs.length))
theorem isplice_length (cur : List Int) (off : Nat) (xs : List Int) (h : off + xs.length ≤ cur.length) : (isplice cur off xs).length = cur.length := by
  simp [isplice]; omega
theorem nums_isplice (cur : List Int) (off : Nat) (xs : List Int) : splice (nums .u8 cur) off (nums .u8 xs) = nums .u8 (isplice cur off xs) := by
  simp [splice, isplice, nums]
def RowAt (W : World) (g : Nat) (xs : List Int) : Prop := W.heap[g]? = some (Obj.cells (nums .u8 xs).toArray 5 (0, 0))
theorem RowAt.C {W : World} {g : Nat} {xs : List Int} (h : RowAt W g xs) (hm : xs.length ≤ 9223372036854775807) : Kd.C (Kd.int .u8) W (some ⟨g, 0, none⟩) xs.length xs := C_block h (by simp) hm
theorem RowAt.below {W W' : World} {g : Nat} {xs : List Int} (h : RowAt W g xs) (hb : Below W.heap.size W W') : RowAt W' g xs := (hb.block g (Array.getElem?_eq_some_iff.1 h).1).trans h
theorem RowAt.grown {W W' : World} {g : Nat} {row : Option Nat} {xs : List Int} (h : RowAt W g xs) (hb : W.grownBy W' row) (hne : some g ≠ row) : RowAt W' g xs := (hb.block g (Array.getElem?_eq_some_iff.1 h).1 hne).trans h
theorem nums_len (xs : List Int) : (nums .u8 xs).length = xs.length := by simp [nums]
theorem copy_u8_step {ops : Array Oper} {o : Oper} {a : Act} {w : World} {K : Act → World → Prop} {Q : Exit → Act → World → Prop} {E : Prop} (hgd : o.guard = none) (d s : Operand)
    (ho : o.op = .call { callee := .builtin .copy, args := #[d, s], argTypes := #[23, 23] }) (g off dLen dCap : Nat) (A : Option Addr) (n sCap : Nat) (cur xs : List Int)
    (hd : a.eval d = .slice (some ⟨g, off, none⟩) dLen dCap) (hs : a.eval s = .slice A n sCap) (hn : xs.length = n) (hle : n ≤ dLen) (hfit : off + n ≤ cur.length) (hg : RowAt w g cur) (hC : Kd.C (Kd.int .u8) w A n xs)
    (h : ∀ w', Hid (RowAt w' g (isplice cur off xs)) → w.grownBy w' (some g) → w'.heap.size = w.heap.size → K (a.put o.dst (goInt n)) w') :
    if Region.wanted o (yielded ops a.tmps) = true then Oper.wp Try.prog o a w K Q else E := by
  subst hn
  have hw : Region.wanted o (yielded ops a.tmps) = true := by simp [Region.wanted, hgd]
  rw [if_pos hw]
  have hmin : (nums .u8 xs).length = Nat.min xs.length dLen := by rw [nums_len]; exact (Nat.min_eq_left hle).symm
  by_cases h0 : xs.length = 0
  · have hrun := run_copy_none (P := Try.prog) w 23 23 o.type 5 (some ⟨g, off, none⟩) A dLen dCap xs.length sCap Try.underlying23 sizeU8 (by rw [h0]; simp)
    unfold Oper.wp
    simp [execOp, ho, resolve, invoke, builtin, hd, hs, hrun, Result.andThen]
    have := h w (show RowAt _ _ _ by obtain rfl : xs = [] := List.eq_nil_of_length_eq_zero h0; simpa [isplice] using hg) (World.grownBy.refl _ _) rfl
    rwa [h0] at this
  · obtain ⟨ad, rfl, hsrc⟩ := C_cells hC (by omega)
    have hrun := run_copy_row (P := Try.prog) w 23 23 o.type 5 g off dLen dCap ad xs.length sCap (nums .u8 cur).toArray 5 (nums .u8 xs) Try.underlying23 sizeU8 hg hmin hsrc (by rw [nums_len]; simpa [nums_len] using hfit) (fun x hx => by
      simp only [nums, List.mem_map] at hx
      obtain ⟨y, _, rfl⟩ := hx
      rfl)
    unfold Oper.wp
    simp [execOp, ho, resolve, invoke, builtin, hd, hs, hrun, Result.andThen]
    have e := nums_isplice cur off xs
    unfold splice at e
    rw [nums_len] at e
    rw [nums_len, e]
    refine h _ (show RowAt _ _ _ from ?_) ⟨rfl, rfl, rfl, by simp [World.setRow], fun k hk hne => setRow_other w g k _ (fun e => hne (by rw [e]))⟩ (by simp [World.setRow])
    exact setRow_heap w g (nums .u8 cur).toArray (nums .u8 (isplice cur off xs)).toArray 5 (0, 0) hg
end Go.Proofs.Ytddajglkefpjdaa.Ext
