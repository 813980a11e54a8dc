/- Small words for walks by hand: blocks that read as rows. -/
import Derived.Test.YtanjkhdagegapaaWMore
import Derived.Lib.SlBytesConst
namespace Go.Proofs.YtanjkhdagegapaaW.Hand
open Go.RowKit Go.Proofs.YtanjkhdagegapaaW.PrintWords Go.Proofs.YtanjkhdagegapaaW.PrintLast Go.Proofs.YtanjkhdagegapaaW.PrintMore
set_option linter.unusedVariables false

/-- A block of numbers reads as a row. -/
theorem C_block {w : World} {g e : Nat} {k : IntKind} {xs : List Int} {cs : Array Value} {fr : Nat × Nat} (h : w.heap[g]? = some (.cells cs e fr)) (hc : cs.toList = nums k xs) (hm : xs.length ≤ 9223372036854775807) :
    Kd.C (Kd.int k) w (some ⟨g, 0, none⟩) xs.length xs := by
  refine Kd.C_of_reads (d := (0 : Int)) (h1 := fun _ => rfl) ⟨rfl, hm, fun _ => ⟨_, rfl, fun j hj => ?_⟩⟩
  rw [add_plain]
  have e1 : cs[j]? = some (.int k (xs.getD j 0)) := by
    rw [← Array.getElem?_toList, hc]
    simp [nums, List.getElem?_eq_getElem hj, List.getD_eq_getElem?_getD]
  simp [World.cell?, h, e1]
/-- A block of slices reads as a row of rows. -/
theorem C_slices {w : World} {g e t : Nat} {k : IntKind} {xss : List (List Int)} {cs : Array Value} {fr : Nat × Nat} (h : w.heap[g]? = some (.cells cs e fr)) (hl : cs.size = xss.length)
    (hc : ∀ (j : Nat) (l : List Int), xss[j]? = some l → ∃ (A : Option Addr) (c : Nat), cs[j]? = some (Value.slice A l.length c) ∧ l.length ≤ c ∧ Kd.C (Kd.int k) w A l.length l) (hm : xss.length ≤ 9223372036854775807) :
    Kd.C (Kd.slice t (Kd.int k)) w (some ⟨g, 0, none⟩) xss.length xss := by
  refine ⟨rfl, hm, fun _ => ⟨_, rfl, fun j l hj => ?_⟩⟩
  obtain ⟨A, c, h1, h2, h3⟩ := hc j l hj
  refine ⟨[.slice A l.length c], rfl, ⟨A, c, rfl, h2, h3⟩, fun i u hi => ?_⟩
  cases i with
  | zero =>
    simp at hi
    subst hi
    have hz : (Kd.slice t (Kd.int k)).sz = 1 := rfl
    rw [add_plain, hz, Nat.mul_one, Nat.add_zero]
    simp [World.cell?, h, h1]
  | succ i => simp at hi
theorem heap_alloc_lt (w : World) (o : Obj) {g : Nat} {x : Option Obj} (hg : g < w.heap.size) (h : w.heap[g]? = x) : (w.alloc o).heap[g]? = x := by
  show (w.heap.push o)[g]? = _
  rw [Array.getElem?_push, if_neg (by omega)]; exact h
theorem size_alloc (w : World) (o : Obj) : (w.alloc o).heap.size = w.heap.size + 1 := by
  show (w.heap.push o).size = _
  simp
theorem heap_new (w : World) (o : Obj) : (w.alloc o).heap[w.heap.size]? = some o := heap_alloc_new w o
theorem heap_new' (w : World) (o : Obj) {g : Nat} (h : g = w.heap.size) : (w.alloc o).heap[g]? = some o := by subst h; exact heap_alloc_new w o
/-- A block, whole. -/
structure Blk (W : World) (g : Nat) (o : Obj) : Prop where out : W.heap[g]? = some o
theorem Blk.lt {W : World} {g : Nat} {o : Obj} (h : Blk W g o) : g < W.heap.size := (Array.getElem?_eq_some_iff.1 h.out).1
theorem Blk.alloc {W : World} {g : Nat} {o o' : Obj} (h : Blk W g o) : Blk (W.alloc o') g o := ⟨heap_alloc_lt W o' h.lt h.out⟩
theorem Blk.drew {W : World} {g : Nat} {o : Obj} (h : Blk W g o) : Blk W.drew g o := ⟨h.out⟩
theorem Blk.drewN {W : World} {g : Nat} {o : Obj} {n : Nat} (h : Blk W g o) : Blk (W.drewN n) g o := ⟨h.out⟩
theorem Blk.below {W W' : World} {g : Nat} {o : Obj} (h : Blk W g o) (hb : Below W.heap.size W W') : Blk W' g o := ⟨(hb.block g h.lt).trans h.out⟩
theorem Blk.new {W : World} {g : Nat} {o : Obj} (h : g = W.heap.size) : Blk (W.alloc o) g o := ⟨heap_new' W o h⟩
theorem Blk.new_ {W : World} {o : Obj} : Blk (W.alloc o) W.heap.size o := ⟨heap_new' W o rfl⟩
theorem Blk.cell {W : World} {g t : Nat} {cs : Array Value} {fr : Nat × Nat} (h : Blk W g (.cells cs t fr)) (j : Nat) : W.cell? ⟨g, j, none⟩ = cs[j]? := cell_of_row W g j cs t fr h.out
theorem Blk.free {W : World} {g t : Nat} {cs : Array Value} (h : Blk W g (.cells cs t (0, 0))) (j : Nat) : W.frozen? ⟨g, j, none⟩ = false := blk_frozen h.out j
theorem Blk.put {W : World} {g t : Nat} {cs cs' : Array Value} (h : Blk W g (.cells cs t (0, 0))) (j : Nat) (u : Value) (e : cs.setIfInBounds j u = cs') : Blk (W.setCell ⟨g, j, none⟩ u) g (.cells cs' t (0, 0)) := ⟨blk_put h.out j u e⟩
theorem grown_put (W : World) (g j : Nat) (u : Value) : W.grownBy (W.setCell ⟨g, j, none⟩ u) (some g) :=
  ⟨rfl, rfl, rfl, by simp [World.setCell], fun k _ hk => Below.heap_setCell W ⟨g, j, none⟩ u k (fun e => hk (by rw [e]))⟩
theorem grown_trans {a b c : World} {row : Option Nat} (h : a.grownBy b row) (k : b.grownBy c row) : a.grownBy c row := World.grownBy.trans h k
theorem grown_below {a b : World} {row : Option Nat} (h : Below a.heap.size a b) : a.grownBy b row := grown_of_below h row
end Go.Proofs.YtanjkhdagegapaaW.Hand
