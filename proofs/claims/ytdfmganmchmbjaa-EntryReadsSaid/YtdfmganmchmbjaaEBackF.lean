/- EntryBack: what the bytes say (facts with no program in sight, and the contracts over them). -/
import Derived.Test.YtdfmganmchmbjaaEMathI
import Derived.Test.YtdfmganmchmbjaaESame
import Derived.Test.YtdfmganmchmbjaaPGreat
namespace Go.Proofs.Ytdfmganmchmbjaa.Ext
open Go.RowKit Go.Proofs.YtdfmganmchmbjaaW.PrintWords Go.Proofs.YtdfmganmchmbjaaW.PrintLast Go.Proofs.YtdfmganmchmbjaaW.PrintMore Go.Proofs.YtdfmganmchmbjaaW.Hand Go.Proofs.Ytdfmganmchmbjaa.PZ
set_option linter.unusedVariables false
/-- What bytes of length m give, whole, without the last one, and with one more. -/
structure BFacts {α : Type} (get : List Int → α × Int) (x z : α) (more : Int) (B : List Int) (m : Nat) : Prop where
  len : B.length = m
  low : 2 ≤ m
  top : m ≤ 2000
  bytes : ∀ x ∈ B, IsByte x
  mbyte : IsByte more
  got : get B = (x, 0)
  less : get (B.take (m - 1)) = (z, 21)
  plus : get (B ++ [more]) = (z, 21)
theorem pfacts (a0 a1 a2 : Int) (L : List S37) (more : Int) (h0 : 0 ≤ a0 ∧ a0 < top64) (h2 : 0 ≤ a2 ∧ a2 < 4294967296) (hk : eposts a0 a1 L = true) (hm : IsByte more) : ∃ m, BFacts gposting (a0, a1, a2, L) (0, 0, 0, []) more (epost a0 a1 a2 L) m := by
  obtain ⟨k1, k2, k3⟩ := eposts_facts hk
  have hl := parts_length L k3
  have hlen : (epost a0 a1 a2 L).length = 32 + ((L.map pbytes).flatten).length := by unfold epost; rw [List.length_append, phead_length]
  refine ⟨(epost a0 a1 a2 L).length, rfl, by omega, by omega, epost_bytes _ _ _ _, hm, ?_, ?_, ?_⟩
  · have := gposting_rest a0 a1 a2 L [] h0 h2 hk
    rwa [List.append_nil, if_pos rfl] at this
  · exact gposting_less a0 a1 a2 L h0 h2 hk _ (by omega)
  · have := gposting_rest a0 a1 a2 L [more] h0 h2 hk
    rwa [if_neg (by simp)] at this
theorem ifacts (a0 a1 a2 a4 a5 : Int) (L : List S53) (more : Int) (h : IOk a0 a1 a2 a4 a5 L) (hk : ebills a0 a1 a4 a5 L = true) (hm : IsByte more) : ∃ m, BFacts ginvoice (a0, a1, a2, a4, a5, L) (0, 0, 0, 0, 0, []) more (einv a0 a1 a2 a4 a5 L) m := by
  have k1 := ebills_len hk
  have hlen : (einv a0 a1 a2 a4 a5 L).length = 48 + 33 * L.length := by unfold einv; rw [List.length_append, ihead_length, lines_length]
  refine ⟨(einv a0 a1 a2 a4 a5 L).length, rfl, by omega, by omega, einv_bytes _ _ _ _ _ _, hm, ?_, ?_, ?_⟩
  · have := ginvoice_rest a0 a1 a2 a4 a5 L [] h hk
    rwa [List.append_nil, if_pos rfl] at this
  · exact ginvoice_less a0 a1 a2 a4 a5 L h hk _ (by omega)
  · have := ginvoice_rest a0 a1 a2 a4 a5 L [more] h hk
    rwa [if_neg (by simp)] at this
theorem bgetp (A : Option Addr) (c m : Nat) (l : List Int) (hlm : l.length = m) (z0 z1 z2 er : Int) (LL : List S37) (w : World) (hC : Kd.C (Kd.int .u8) w A l.length l) (hby : ∀ x ∈ l, IsByte x) (hm : m ≤ 140737488355000) (hG : gposting l = ((z0, z1, z2, LL), er)) :
    Calls Try.prog 22 #[.slice A m c] w fun e w' => ∃ v : Value, e = .returned (.tuple #[.agg #[.int .u64 z0, .int .i64 z1, .int .u32 z2, v], .int .i64 er]) ∧ Kd.R k37 37 w' w.heap.size (fun _ => True) v LL ∧ Below w.heap.size w w' := by
  have := Getposting_all A c l w hC hby (by omega) z0 z1 z2 er LL hG
  rw [hlm] at this
  exact this
theorem bgeti (A : Option Addr) (c m : Nat) (l : List Int) (hlm : l.length = m) (z0 z1 z2 z3 z4 er : Int) (LL : List S53) (w : World) (hC : Kd.C (Kd.int .u8) w A l.length l) (hby : ∀ x ∈ l, IsByte x) (hm : m ≤ 140737488355000) (hG : ginvoice l = ((z0, z1, z2, z3, z4, LL), er)) :
    Calls Try.prog 24 #[.slice A m c] w fun e w' => ∃ v : Value, e = .returned (.tuple #[.agg #[.int .u32 z0, .int .u32 z1, .int .i64 z2, v, .int .i64 z3, .int .i64 z4], .int .i64 er]) ∧ Kd.R k53 53 w' w.heap.size (fun _ => True) v LL ∧ Below w.heap.size w w' := by
  have := Getinvoice_all A c l w hC hby (by omega) z0 z1 z2 z3 z4 er LL hG
  rw [hlm] at this
  exact this
theorem lease_app (a0 a1 a2 a3 a4 : Int) (h0 : U32r a0) (h1 : I64r a1) (h2 : I64r a2) (h3 : I64r a3) (h4 : I64r a4) : glease (eleaseb a0 a1 a2 a3 a4) = ((a0, a1, a2, a3, a4), 0) := by
  have e : eleaseb a0 a1 a2 a3 a4 = beN 8 a0 ++ (beN 8 (a1 % top64) ++ (beN 8 (a2 % top64) ++ (beN 8 (a3 % top64) ++ (beN 8 (a4 % top64) ++ [])))) := by
    unfold eleaseb
    rw [emod_top (v := a0) h0.1 h0.2]
    simp only [List.append_assoc, List.append_nil]
  have r : rlease ⟨eleaseb a0 a1 a2 a3 a4, false⟩ = ((a0, a1, a2, a3, a4), ⟨[], false⟩) := by
    rw [e]
    unfold rlease
    rw [small_app _ _ h0.1 h0.2]
    dsimp only
    rw [int_app _ _ h1.1 h1.2]
    dsimp only
    rw [int_app _ _ h2.1 h2.2]
    dsimp only
    rw [int_app _ _ h3.1 h3.2]
    dsimp only
    rw [int_app _ _ h4.1 h4.2]
  unfold glease
  rw [r]
  rfl
theorem pack_app (a0 a1 : Int) (h0 : U32r a0) (h1 : I64r a1) : gpack (epackb a0 a1) = ((a0, a1), 0) := by
  have e : epackb a0 a1 = beN 8 a0 ++ (beN 8 (a1 % top64) ++ []) := by
    unfold epackb
    rw [emod_top (v := a0) h0.1 h0.2, List.append_nil]
  have r : rpack ⟨epackb a0 a1, false⟩ = ((a0, a1), ⟨[], false⟩) := by
    rw [e]
    unfold rpack
    rw [small_app _ _ h0.1 h0.2]
    dsimp only
    rw [int_app _ _ h1.1 h1.2]
  unfold gpack
  rw [r]
  rfl
theorem elease_bytes (a0 a1 a2 a3 a4 : Int) : ∀ x ∈ eleaseb a0 a1 a2 a3 a4, IsByte x := by
  intro x hx
  unfold eleaseb at hx
  simp only [List.mem_append] at hx
  rcases hx with (((hx | hx) | hx) | hx) | hx <;> exact beN_bytes _ _ x hx
theorem epack_bytes (a0 a1 : Int) : ∀ x ∈ epackb a0 a1, IsByte x := by
  intro x hx
  unfold epackb at hx
  simp only [List.mem_append] at hx
  rcases hx with hx | hx <;> exact beN_bytes _ _ x hx
theorem elease_len (a0 a1 a2 a3 a4 : Int) : (eleaseb a0 a1 a2 a3 a4).length = 40 := by unfold eleaseb; simp only [List.length_append, beN_length]
theorem epack_len (a0 a1 : Int) : (epackb a0 a1).length = 16 := by unfold epackb; simp only [List.length_append, beN_length]
theorem bgetl (A : Option Addr) (c m : Nat) (l : List Int) (hlm : l.length = m) (z0 z1 z2 z3 z4 er : Int) (w : World) (hC : Kd.C (Kd.int .u8) w A l.length l) (hby : ∀ x ∈ l, IsByte x) (hm : m ≤ 140737488355000) (hG : glease l = ((z0, z1, z2, z3, z4), er)) :
    Calls Try.prog 21 #[.slice A m c] w fun e w' => e = .returned (.tuple #[.agg #[.int .u32 z0, .int .i64 z1, .int .i64 z2, .int .i64 z3, .int .i64 z4], .int .i64 er]) ∧ Below w.heap.size w w' := by
  have := Getlease_all A c l w hC hby (by omega)
  rw [hlm, hG] at this
  exact this
theorem bgetk (A : Option Addr) (c m : Nat) (l : List Int) (hlm : l.length = m) (z0 z1 er : Int) (w : World) (hC : Kd.C (Kd.int .u8) w A l.length l) (hby : ∀ x ∈ l, IsByte x) (hm : m ≤ 140737488355000) (hG : gpack l = ((z0, z1), er)) :
    Calls Try.prog 26 #[.slice A m c] w fun e w' => e = .returned (.tuple #[.agg #[.int .u32 z0, .int .i64 z1], .int .i64 er]) ∧ Below w.heap.size w w' := by
  have := Getpack_all A c l w hC hby (by omega)
  rw [hlm, hG] at this
  exact this
theorem eqA40 (d : Nat) (w : World) (x0 y0 : Int) (x1 y1 : Int) (x2 y2 : Int) (x3 y3 : Int) (x4 y4 : Int) :
    (Op.equalIn (d + 2) 40 (.agg #[.int .u32 x0, .int .i64 x1, .int .i64 x2, .int .i64 x3, .int .i64 x4]) (.agg #[.int .u32 y0, .int .i64 y1, .int .i64 y2, .int .i64 y3, .int .i64 y4])).run Try.prog w = .ok (x0 == y0 && (x1 == y1 && (x2 == y2 && (x3 == y3 && (x4 == y4))))) w := by
  refine eqA_of Try.underlying40 (by kernel_rfl) ?_
  refine eqf_cons (by rfl) (by go_simp; rfl) (by go_simp; rfl) (by go_simp) ?_
  refine eqf_cons (by rfl) (by go_simp; rfl) (by go_simp; rfl) (by go_simp) ?_
  refine eqf_cons (by rfl) (by go_simp; rfl) (by go_simp; rfl) (by go_simp) ?_
  refine eqf_cons (by rfl) (by go_simp; rfl) (by go_simp; rfl) (by go_simp) ?_
  exact eqf_last (by rfl) (by go_simp; rfl) (by go_simp; rfl) (by go_simp)
end Go.Proofs.Ytdfmganmchmbjaa.Ext
