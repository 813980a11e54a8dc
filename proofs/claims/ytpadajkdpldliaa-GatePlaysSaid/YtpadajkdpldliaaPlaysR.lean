/- GatePlays: the gateway and the reference's, side by side. -/
import Derived.Test.YtpadajkdpldliaaPlaysM
namespace Go.Proofs.Ytpadajkdpldliaa.Ext
open Go.RowKit Go.Proofs.YtpadajkdpldliaaW.PrintWords Go.Proofs.YtpadajkdpldliaaW.PrintLast Go.Proofs.YtpadajkdpldliaaW.PrintMore Go.Proofs.YtpadajkdpldliaaW.Hand
set_option linter.unusedVariables false
/-- No block of the reference's. -/
def NotR (p : Nat) (va vs : Value) (k : Nat) : Prop := k ≠ p ∧ some k ≠ va.ownBlock ∧ some k ≠ vs.ownBlock
/-- The two gateways. -/
def PX (w W : World) (g p B : Nat) (me last : Int) (Q R : List Rq) (vb : Value) (asks : List ByteArray) (done : Nat) (ans : List ByteArray) (va vs : Value) : Prop :=
  GV W g B (NotR p va vs) me last Q R vb ∧ RV W p B me asks done ans va vs ∧ g ≠ p ∧ Below B w W
theorem KT_strs {g : Nat} {w w' : World} (h : KT g w w') (hg : ∃ cs, w.heap[g]? = some (.cells cs 68 (0, 0))) {base : Nat} {ok : Nat → Prop} {v : Value} {xs : List ByteArray} (hr : Kd.R Kd.string 9 w base ok v xs) : Kd.R Kd.string 9 w' base ok v xs := by
  refine Kd.R_mono (Kd.R_step (Kd.R_bound hr) (fun k hk hlt => ?_)) (fun k hk => hk.1)
  obtain ⟨h0, hb, _, q, hq, cells, hc⟩ := hk
  have hq : q = 9 := by
    rcases List.mem_cons.1 hq with h1 | h1
    · exact h1
    · cases h1
  subst hq
  refine h.2 k cells _ _ hc (fun e => ?_) (by decide) (by decide)
  obtain ⟨cs, hg⟩ := hg
  rw [← e, hc] at hg
  cases hg
theorem RV.kt {g p base : Nat} {w w' : World} {me : Int} {asks ans : List ByteArray} {done : Nat} {va vs : Value} (h : RV w p base me asks done ans va vs) (hk : KT g w w') (hg : ∃ cs, w.heap[g]? = some (.cells cs 68 (0, 0))) (hne : g ≠ p) : RV w' p base me asks done ans va vs :=
  ⟨KT_blk hk h.1 (fun e => hne e.symm) (by decide) (by decide), KT_strs hk hg h.2.1, KT_strs hk hg h.2.2.1, h.2.2.2⟩
theorem GV.blk {W : World} {g B : Nat} {P : Nat → Prop} {me last : Int} {Q R : List Rq} {vb : Value} (h : GV W g B P me last Q R vb) : ∃ cs, W.heap[g]? = some (.cells cs 68 (0, 0)) := by
  obtain ⟨va, h1, _⟩ := h; exact ⟨_, h1.out⟩
theorem PX.below {w W W' : World} {g p B : Nat} {me last : Int} {Q R : List Rq} {vb : Value} {asks ans : List ByteArray} {done : Nat} {va vs : Value} (h : PX w W g p B me last Q R vb asks done ans va vs) (hb : Below W.heap.size W W') : PX w W' g p B me last Q R vb asks done ans va vs := by
  have hBW : B ≤ W.heap.size := Nat.le_of_lt (Nat.lt_of_le_of_lt h.1.at.le h.1.at.lt)
  exact ⟨h.1.below hb, h.2.1.below hb, h.2.2.1, below_then h.2.2.2 hBW hb⟩
theorem PX.fresh {w W : World} {g p B : Nat} {me last : Int} {Q R : List Rq} {vb : Value} {asks ans : List ByteArray} {done : Nat} {va vs : Value} (h : PX w W g p B me last Q R vb asks done ans va vs) (k : Nat) (hk : W.heap.size ≤ k) : NotR p va vs k :=
  ⟨by have := h.2.1.lt; omega, own_old (Kd.R_typed h.2.1.2.1) k hk, own_old (Kd.R_typed h.2.1.2.2.1) k hk⟩
/-- The gateway has done something. -/
theorem PX.gate {w W W' : World} {g p B : Nat} {me last last' : Int} {Q R Q' R' : List Rq} {vb vb' : Value} {asks ans : List ByteArray} {done : Nat} {va vs : Value} (h : PX w W g p B me last Q R vb asks done ans va vs) (hg : GV W' g B (NotR p va vs) me last' Q' R' vb') (hk : KT g W W') (hb : Below B W W') : PX w W' g p B me last' Q' R' vb' asks done ans va vs :=
  ⟨hg, h.2.1.kt hk h.1.blk h.2.2.1, h.2.2.1, h.2.2.2.trans hb⟩
/-- The reference has done something. -/
theorem PX.ref {w W W' : World} {g p B : Nat} {me last : Int} {Q R : List Rq} {vb : Value} {asks ans asks' ans' : List ByteArray} {done done' : Nat} {va vs va' vs' : Value} (h : PX w W g p B me last Q R vb asks done ans va vs) (hr : RV W' p B me asks' done' ans' va' vs') {row : Option Nat} (hk : KeepBut W W' p row) (hrow : row = va.ownBlock ∨ row = vs.ownBlock)
    (ha : va'.ownBlock = va.ownBlock ∨ ∃ b, va'.ownBlock = some b ∧ W.heap.size ≤ b) (hs : vs'.ownBlock = vs.ownBlock ∨ ∃ b, vs'.ownBlock = some b ∧ W.heap.size ≤ b) (hb : Below B W W') : PX w W' g p B me last Q R vb asks' done' ans' va' vs' := by
  refine ⟨?_, hr, h.2.2.1, h.2.2.2.trans hb⟩
  have hgr : some g ≠ row := fun e => by
    obtain ⟨cs, hg⟩ := h.1.blk
    rcases hrow with h1 | h1
    · obtain ⟨cells, hc⟩ := Kd.R_typed h.2.1.2.1 g (h1 ▸ e.symm)
      rw [hc] at hg; cases hg
    · obtain ⟨cells, hc⟩ := Kd.R_typed h.2.1.2.2.1 g (h1 ▸ e.symm)
      rw [hc] at hg; cases hg
  have h1 := h.1.mono (P' := fun x => NotR p va vs x ∧ x < W.heap.size) (fun x hx hlt => ⟨hx, hlt⟩)
  obtain ⟨v, g1, g2, g3, g4⟩ := h1
  have hx : ∀ k, NotR p va vs k ∧ k < W.heap.size → W'.heap[k]? = W.heap[k]? := fun k hk1 => hk.2 k hk1.2 hk1.1.1 (hrow.elim (fun e => e ▸ hk1.1.2.1) (fun e => e ▸ hk1.1.2.2))
  have h2 : GV W' g B (fun x => NotR p va vs x ∧ x < W.heap.size) me last Q R vb := ⟨v, ⟨(hk.2 g g1.lt h.2.2.1 hgr).trans g1.out⟩, Kd.N_step g2 (fun k hk1 hlt => hx k hk1.1), Kd.N_step g3 (fun k hk1 hlt => hx k hk1.1), g4⟩
  refine h2.mono (fun x hx _ => ⟨hx.1.1, fun e => ?_, fun e => ?_⟩)
  · rcases ha with h3 | ⟨b, h3, h4⟩
    · exact hx.1.2.1 (e.trans h3)
    · rw [h3] at e; injection e with e; have := hx.2; omega
  · rcases hs with h3 | ⟨b, h3, h4⟩
    · exact hx.1.2.2 (e.trans h3)
    · rw [h3] at e; injection e with e; have := hx.2; omega
theorem Ask_strP (g B : Nat) (P : Nat → Prop) (me last : Int) (Q R : List Rq) (c : Nat) (s : ByteArray) (w : World) (vb : Value) (h : GV w g B P me last Q R vb) (hP : ∀ k, w.heap.size ≤ k → P k) (hs : s.size ≤ 1000) (hq : Q.length < 32) (h0 : 0 ≤ last) (h1 : last + 1 < 18446744073709551616) :
    Calls Try.prog 12 #[.pointer (some ⟨g, 0, none⟩), .slice (some ⟨w.heap.size, 0, none⟩) s.size c] (Lib.bytesWorld w 5 s) fun e w' => e = .returned (.tuple #[.int .u64 (last + 1), .int .i64 0]) ∧ (∃ vb', GV w' g B P me (last + 1) (Q ++ [(last + 1, bytesOf s)]) R vb') ∧ KT g w w' ∧ Below B w w' := by
  have hb := str_below w 5 s
  have hG : GAtP (Lib.bytesWorld w 5 s) g B P me last Q R := by
    obtain ⟨va, g1, g2, g3, g4⟩ := h.below hb
    exact ⟨va, vb, g1, g2, g3, g4⟩
  have hlt := h.at.lt
  have hk := Ask_okP g B P me last Q R _ c (bytesOf s) _ hG (fun k hk => hP k (Nat.le_trans hb.size hk)) (fun k => k = w.heap.size) (F_str w s hs) (fun k hk => by omega) hq (by rw [bytesOf_length]; exact hs) h0 h1
  rw [bytesOf_length] at hk
  refine hk.mono ?_
  rintro e w' ⟨rfl, hG', hK, hb'⟩
  exact ⟨rfl, hG'.v, (KT.of_below hb).trans hK, (below_weak hb (Nat.le_of_lt (Nat.lt_of_le_of_lt h.at.le hlt))).trans hb'⟩
theorem KT_hear {w w' : World} {g B : Nat} {P : Nat → Prop} {me last : Int} {Q R : List Rq} {vb : Value} (h : GV w g B P me last Q R vb) (hk : KeepBut w w' g vb.ownBlock) : KT g w w' := by
  obtain ⟨va, _, _, h3, _⟩ := h
  exact KT.of_keep hk (fun k e => by obtain ⟨cs, h⟩ := Kd.N_typed h3 k e; exact ⟨cs, .inr h⟩)
/-- What is known of the numbers behind so many acts. -/
structure PL (j : Nat) (asks : List ByteArray) (done : Nat) (ans : List ByteArray) (told : Nat) : Prop where
  hd : done ≤ asks.length
  hl : asks.length ≤ j
  hq : asks.length - done ≤ 32
  ha : ans.length = done
  ht : told ≤ done
  hs : ∀ s ∈ asks, s.size ≤ 1000
theorem PL.more {j : Nat} {asks : List ByteArray} {done : Nat} {ans : List ByteArray} {told : Nat} (h : PL j asks done ans told) : PL (j + 1) asks done ans told := ⟨h.hd, Nat.le_succ_of_le h.hl, h.hq, h.ha, h.ht, h.hs⟩
theorem PL.ask {j : Nat} {asks : List ByteArray} {done : Nat} {ans : List ByteArray} {told : Nat} (h : PL j asks done ans told) {s : ByteArray} (hs : s.size ≤ 1000) (hq : asks.length - done < 32) : PL (j + 1) (asks ++ [s]) done ans told := by
  have := h.hd; have := h.hl
  refine ⟨by rw [List.length_append, List.length_singleton]; omega, by rw [List.length_append, List.length_singleton]; omega, by rw [List.length_append, List.length_singleton]; omega, h.ha, h.ht, fun x hx => ?_⟩
  rcases List.mem_append.1 hx with h1 | h1
  · exact h.hs x h1
  · rw [List.mem_singleton.1 h1]; exact hs
theorem PL.take {j : Nat} {asks : List ByteArray} {done : Nat} {ans : List ByteArray} {told : Nat} (h : PL j asks done ans told) (hn : done < asks.length) (s : ByteArray) : PL (j + 1) asks (done + 1) (ans ++ [s]) told := by
  have := h.ha; have := h.ht; have := h.hq
  exact ⟨hn, Nat.le_succ_of_le h.hl, by omega, by rw [List.length_append, List.length_singleton]; omega, by omega, h.hs⟩
theorem PL.tell {j : Nat} {asks : List ByteArray} {done : Nat} {ans : List ByteArray} {told : Nat} (h : PL j asks done ans told) : PL (j + 1) asks done ans done := ⟨h.hd, Nat.le_succ_of_le h.hl, h.hq, h.ha, Nat.le_refl _, h.hs⟩
theorem Qs_qlen (asks : List ByteArray) (done : Nat) : ((Qs asks asks.length).drop done).length = asks.length - done := by rw [List.length_drop, Qs_length]
theorem Qs_ask (asks : List ByteArray) (done : Nat) (s : ByteArray) (h : done ≤ asks.length) : (Qs asks asks.length).drop done ++ [((asks.length : Int) + 1, bytesOf s)] = (Qs (asks ++ [s]) (asks ++ [s]).length).drop done := by
  rw [List.length_append, List.length_singleton, Qs_more, List.drop_append_of_le_length (by rw [Qs_length]; exact h)]
theorem Qs_all_req (asks : List ByteArray) (done : Nat) (hl : asks.length ≤ 1000) (hs : ∀ s ∈ asks, s.size ≤ 1000) : ∀ p ∈ (Qs asks asks.length).drop done, Req p := by
  intro p hp
  have hp := List.mem_of_mem_drop hp
  unfold Qs at hp
  rw [List.mem_map] at hp
  obtain ⟨k, hk, rfl⟩ := hp
  rw [List.mem_range] at hk
  have h1 := hs (asks.getD k ByteArray.empty) (by simp only [List.getD_eq_getElem?_getD, List.getElem?_eq_getElem hk]; exact List.getElem_mem hk)
  exact ⟨by dsimp only; omega, by dsimp only; omega, by dsimp only; rw [bytesOf_length]; omega⟩
end Go.Proofs.Ytpadajkdpldliaa.Ext
