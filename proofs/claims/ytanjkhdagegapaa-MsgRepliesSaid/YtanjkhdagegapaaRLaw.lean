/- MsgReplies: the law, over a reply that comes in. -/
import Derived.Test.YtanjkhdagegapaaG7
import Derived.Test.YtanjkhdagegapaaG6
import Derived.Test.YtanjkhdagegapaaPZx7
namespace Go.Proofs.Ytanjkhdagegapaa.Ext
open Go.RowKit Go.ChangeShapes Go.WideShapes Go.Proofs.YtanjkhdagegapaaW.PrintWords Go.Proofs.YtanjkhdagegapaaW.PrintLast Go.Proofs.YtanjkhdagegapaaW.PrintMore Go.Proofs.Ytanjkhdagegapaa.PZ
set_option linter.unusedVariables false
theorem wrap32_range (e : Int) : -2147483648 ≤ wrap32 e ∧ wrap32 e ≤ 2147483647 := by
  unfold wrap32; omega
theorem wrap64_small (e : Int) (h : -2147483648 ≤ e ∧ e ≤ 2147483647) : wrap64 e = e := by
  unfold wrap64; omega
theorem rplOk_of {d : Int} {t : ByteArray} (h0 : 0 ≤ d) (h1 : d < 4294967296) (h2 : t.size ≤ 1000000) : rplOk d t = true := by
  unfold rplOk; simp [h0, h1, h2]
theorem j1_ok (k : Nat) (l : List Int) (hb : ∀ x ∈ l, IsByte x) (hl : l.length ≤ 5000) : quitrentlaw25_MsgReplies.j1 (k + 1) l false = some true := by
  simp only [quitrentlaw25_MsgReplies.j1]
  rw [if_neg (by decide)]
  have hG : msg_GetReply.f l = some ((gget l).1.1, (gget l).1.2.1, (gget l).1.2.2.1, (gget l).1.2.2.2.1, (gget l).1.2.2.2.2, (gget l).2) := by
    unfold msg_GetReply.f
    rw [if_pos ⟨byOk_of hb, by omega⟩]
  rw [hG, Option.bind_some]
  rcases gget_sound l hb with h | ⟨e, d, n, m, t, h, hd, ht, hr⟩
  · rw [h]
    dsimp only
    rw [if_neg (by decide), if_pos rfl]
    simp [quitrentlaw25_goes.f]
  · rw [h]
    dsimp only
    rw [if_pos rfl]
    unfold msg_PutReply.f
    rw [if_pos (rplOk_of hd.1 hd.2 (by omega)), Option.bind_some, hr, if_pos rfl]
    rfl
theorem MsgReplies_f (k : Nat) (e d n m : Int) (t : ByteArray) (l : List Int) (hd : 0 ≤ d ∧ d < 4294967296) (hn : I64 n) (hm : I64 m) (hb : ∀ x ∈ l, IsByte x) : quitrentlaw25_MsgReplies.f (k + 2) e d n m t l = some true := by
  unfold quitrentlaw25_MsgReplies.f
  by_cases h1 : (t.size : Int) > 5000
  · rw [if_pos h1]; simp only [quitrentlaw25_MsgReplies.j0]; rfl
  rw [if_neg h1]
  by_cases h2 : (l.length : Int) > 5000
  · rw [decide_eq_true h2]; simp only [quitrentlaw25_MsgReplies.j0]; rfl
  rw [decide_eq_false h2]
  simp only [quitrentlaw25_MsgReplies.j0]
  rw [if_neg (by decide), wrap64_small _ (wrap32_range e)]
  have hE := wrap32_range e
  obtain ⟨e', he'⟩ : ∃ q, wrap32 e = q := ⟨_, rfl⟩
  rw [he'] at hE ⊢
  have ht : t.size ≤ 1000000 := by omega
  have hp : msg_PutReply.f e' d n m t = some (rplB e' d n m t) := by unfold msg_PutReply.f; rw [if_pos (rplOk_of hd.1 hd.2 ht)]
  have hq : quitrentref25_Reply.f e' d n m t = some (rplB e' d n m t) := by unfold quitrentref25_Reply.f; rw [if_pos (rplOk_of hd.1 hd.2 ht)]
  have hg : msg_GetReply.f (rplB e' d n m t) = some (e', d, n, m, t, 0) := by
    unfold msg_GetReply.f
    rw [if_pos ⟨byOk_of (rplB_bytes e' d n m t), by rw [rplB_len]; omega⟩, gget_rpl e' d n m t hE hd (by unfold I64 at hn; omega) (by unfold I64 at hm; omega) ht]
  rw [hp, Option.bind_some, hg, Option.bind_some, hq, Option.bind_some, if_pos rfl]
  dsimp only
  rw [if_pos rfl]
  have hx : (!(e' == e') || (!(d == d) || (!(n == n) || (!(m == m) || (!(t.toList == t.toList)))))) = false := by simp
  rw [hx]
  exact j1_ok k l hb (by omega)
set_option maxRecDepth 100000 in
theorem MsgReplies.walk {H : Type} {enc : TypeId × Value → H} {W : World} {v : Value} {A : Option Addr} {n c : Nat} {d0 d1 : DataW H} {p0 p1 : List MemPlace} {base : Nat} (hv : Value.okWide Try.prog W .any base 42 v)
    (h0 : DataW.Trod enc Try.prog W 0 (fun _ => true) true 42 v d0 p0) (h1 : DataW.Trod enc Try.prog W 0 (fun _ => true) true 29 (.slice A n c) d1 p1) : Calls Try.prog 8 #[v, .slice A n c] W fun e w' => e = .returned (.bool true) ∧ Below W.heap.size W w' := by
  obtain ⟨e, d, m, k, t, rfl, he, hd, hn, hm⟩ := reply_come hv h0
  obtain ⟨b, rfl, hr, hc, hb⟩ := bytes_come h1
  exact quitrentlaw25_MsgReplies.calls (0 + 2) e d m k t A c b true W hr hc (MsgReplies_f 0 e d m k t b hd hn hm hb)
end Go.Proofs.Ytanjkhdagegapaa.Ext
