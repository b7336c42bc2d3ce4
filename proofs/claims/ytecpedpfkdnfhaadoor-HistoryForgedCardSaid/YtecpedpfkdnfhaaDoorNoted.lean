/- Part Noted of the proofs on this seat. Conditions: none beyond those in the theorems. By an AI agent. -/
import Derived.Test.YtecpedpfkdnfhaaDoorFit
namespace Go.Proofs.YtecpedpfkdnfhaaDoor
open Go Go.RowKit

/-- What a tape is behind steps that noted L, and which blocks it has: those that A had, and new ones. -/
structure TIs (w W : World) (B : Nat) (A A' : Nat → Prop) (tv : Value) (ts ts' : TS) (L : List (List Nat)) : Prop where
  arg : TArg W B A' tv ts'
  sub : ∀ k, A' k → Adds A w.heap.size W.heap.size k
  notes : Notes L ts ts'
  foot : ∀ k ∈ foot ts', k ∈ foot ts ∨ w.heap.size ≤ k
theorem TIs.keep {w W W' : World} {B : Nat} {A A' : Nat → Prop} {tv : Value} {ts ts' : TS} {L : List (List Nat)} {M : List Nat} (h : TIs w W B A A' tv ts ts' L) (x : Chg W W' M) (hM : ∀ k ∈ M, ¬ A' k) : TIs w W' B A A' tv ts ts' L :=
  ⟨h.arg.keep x hM, fun k hk => (h.sub k hk).imp id fun h => ⟨h.1, by have := x.size; omega⟩, h.notes, h.foot⟩
theorem TIs.keep0 {w W W' : World} {B : Nat} {A A' : Nat → Prop} {tv : Value} {ts ts' : TS} {L : List (List Nat)} (h : TIs w W B A A' tv ts ts' L) (x : Chg W W' []) : TIs w W' B A A' tv ts ts' L := h.keep x (by simp)
/-- One call more. -/
theorem TIs.next {w W W' : World} {B : Nat} {A A' : Nat → Prop} {tv : Value} {ts ts' ts'' : TS} {L L' : List (List Nat)} (h : TIs w W B A A' tv ts ts' L) (hw : w.heap.size ≤ W.heap.size) (p : TPost W W' B A' tv ts' ts'' L') : TIs w W' B A (Adds A' W.heap.size W'.heap.size) tv ts ts'' (L ++ L') := by
  have hs := p.chg.size
  refine ⟨p.arg, fun k hk => ?_, h.notes.trans p.notes, fun k hk => ?_⟩
  · rcases hk with hk | hk
    · exact (h.sub k hk).imp id fun h => ⟨h.1, by omega⟩
    · exact .inr ⟨by omega, hk.2⟩
  · rcases p.foot k hk with hk | hk
    · exact h.foot k hk
    · exact .inr (by omega)

set_option maxHeartbeats 1000000 in
theorem noted_calls (B : Nat) (A : Nat → Prop) (tv : Value) (ts : TS) (bss : List (List Nat)) (a : Option Addr) (n c : Nat) (w : World) (hP0 : Pre B A tv ts w) (hP : Parts w a n c bss) (hL : Sp.light bss = true)
    (hPk : ∀ W, Chg w W (foot ts) → Parts W a n c bss) (htl : ts.len + n ≤ 1073741824) :
    CallsR Tryd.prog 19 #[tv, .slice a n c] w fun v w' => w'.ownsRow w.heap.size 28 32 v n (natsC .u8 (bss.map Sp.leaf).flatten) ∧ Chg w w' (foot ts) ∧
      ∃ A' ts', TIs w w' B A A' tv ts ts' (bss.map (0 :: ·)) ∧ ∀ k, v.ownBlock = some k → ¬ A' k := by
  have hlen := hP.length
  have hl1 := Sp.light_len hL
  have hl2 := Sp.light_each hL
  have hG := hP0.g
  have hBw := hP0.bw
  have hA := hP0.a
  have hTl := hP0.t.foot_lo
  have hX : Chg w w (foot ts) := Chg.refl _ _
  have hT0 : TIs w w B A A tv ts ts [] := ⟨hP0.t, fun k hk => .inl hk, Notes.nil, fun k hk => .inl hk⟩
  refine f_enter (l := [tv, .slice a n c]) Tryd.func19 rfl rfl rfl rfl ?_
  intro Qf hnrm hret
  refine c_seqreg (fun K1 hK1 => ?_)
  refine s_val rfl rfl (runs_assign rfl) ?_
  refine s_nil ?_
  refine hK1 _ _ ?_
  refine c_seqreg (fun K2 hK2 => ?_)
  refine s_val rfl rfl (runs_assign rfl) ?_
  refine s_nil ?_
  refine hK2 _ _ ?_
  refine c_seq (fun K3 hK3 => ?_)
  refine c_seqreg (fun K4 hK4 => ?_)
  refine s_val rfl rfl (runs_move rfl) ?_
  refine s_val rfl rfl (runs_len_slice Tryd.underlying22 rfl) ?_
  refine s_val rfl rfl (runs_move rfl) ?_
  refine s_nil ?_
  refine hK4 _ _ ?_
  refine c_block ?_
  refine c_loop (σ := Nat × Value) (fun s => [(10, .int .i64 (s.1 : Int)), (5, s.2), (8, .slice a n c), (9, .int .i64 (n : Int)), (0, tv)]) (fun s w' => s.1 ≤ n ∧ w'.ownsRow w.heap.size 28 32 s.2 s.1 (natsC .u8 ((bss.take s.1).map Sp.leaf).flatten) ∧ GH B w' ∧ Chg w w' (foot ts) ∧ ∃ A' ts', TIs w w' B A A' tv ts ts' ((bss.take s.1).map (0 :: ·)) ∧ ∀ k, s.2.ownBlock = some k → ¬ A' k) (fun s => n - s.1) (0, .slice none 0 0) ⟨rfl, rfl, rfl, rfl, rfl, trivial⟩ ⟨Nat.zero_le _, World.ownsRow_nil _ _ _ _, hG, hX, A, ts, hT0, by simp [Value.ownBlock]⟩ ?_
  rintro ⟨i, v3⟩ w1 ⟨hi, hown, hG, hX, A', ts', hT, hno⟩
  dsimp only at hi hown hT hno ⊢
  have hzX := hX.size
  refine c_seqreg (fun K5 hK5 => ?_)
  refine s_val rfl rfl (runs_lt rfl rfl) ?_
  refine s_nil ?_
  refine hK5 _ _ ?_
  refine c_seq (fun K6 hK6 => ?_)
  refine c_dec rfl (fun hin => ?_) (fun hin => ?_)
  · obtain ⟨vs, hvs, hho⟩ := (hPk w1 hX).rd
    obtain ⟨ba, oa, rfl⟩ := hvs.some_ (by omega)
    obtain ⟨bs, hbs⟩ : ∃ bs, bss[i]? = some bs := ⟨_, List.getElem?_eq_getElem (by omega)⟩
    obtain ⟨v, hv⟩ : ∃ v, vs[i]? = some v := ⟨_, List.getElem?_eq_getElem (by rw [hho.1]; omega)⟩
    obtain ⟨⟨a', c', rfl, hrb⟩, hbl⟩ := hho.2 i v bs hv hbs
    have hb100 := hl2 bs (List.mem_of_getElem? hbs)
    have hA' : ∀ k, A' k → k < w1.heap.size := fun k hk => (hT.sub k hk).elim (fun h => by have := hA k h; omega) (fun h => h.2)
    have hTf' := hT.arg.foot_hi
    have hnl := hT.notes.len
    rw [List.length_map, List.length_take] at hnl
    have hown1 := hown
    refine c_skip ?_
    refine hK6 _ _ ?_
    refine c_seq (fun K7 hK7 => ?_)
    refine c_block ?_
    refine c_seqreg (fun K8 hK8 => ?_)
    refine s_val rfl rfl (runs_index_slice (i) Tryd.underlying22 ty32 rfl rfl (by omega) (by omega)) ?_
    refine s_val rfl rfl (runs_load1 ty32 rfl (hvs.elem1 hv)) ?_
    refine s_val rfl rfl (runs_assign rfl) ?_
    refine s_nil ?_
    refine hK8 _ _ ?_
    refine c_reg ?_
    refine s_val rfl rfl (runs_move rfl) ?_
    refine s_val rfl rfl (runs_move rfl) ?_
    refine s_val rfl rfl (runs_move rfl) ?_
    refine s_callf (xs := [.tmp 15, .tmp 16]) rfl rfl Tryd.func18 rfl (by kernel_rfl) rfl (leaf_calls B A' tv ts' bs _ _ _ _ hG (by omega) hrb hbl (by omega) hT.arg hA' (by omega)) ?_
    rintro _ w2 ⟨rfl, ts'', hTP⟩
    replace hG := hG.keep hTP.chg (fun k hk => hT.arg.foot_lo k hk)
    replace hown := own_keep hown hTP.chg (fun k hk hm => hno k hk (hTf' k hm))
    have zs5_3 := hTP.chg.size
    have hz2 := hTP.chg.size
    refine s_lit (xs := [.tmp 17]) Tryd.underlying25 ty28 rfl rfl rfl rfl rfl (hv_sz (l := [Sp.leaf bs]) (by simpa using leaf_ok _)) (by decide) (by decide) ?_
    intro b3 w3 e5_4 z5_4 hb3 X5_4
    replace hG := hG.keep X5_4 (by simp)
    replace hown := own_keep hown X5_4 (by simp)
    have hz3 := X5_4.size
    have hown0 := hown
    refine s_append Tryd.underlying25 ty28 rfl (by decide) rfl rfl rfl hown rfl (hs_lit [Sp.leaf bs] hb3 (by simpa using leaf_ok _) rfl).rd (natsC_one _ _) (by simp only [maxLen]; omega) (by omega) (by omega) ?_
    intro v5 w5 H5_5 X5_5 F5_5
    replace hG := hG.keep X5_5 (fun k hm => by have := (hown0.lt k (by simpa using hm)).1; omega)
    have hown := H5_5
    have hnoA : ∀ k, v3.ownBlock = some k → ¬ Adds A' w1.heap.size w2.heap.size k := fun k hk h => h.elim (hno k hk) (fun h => by have := (hown1.lt k hk).2; omega)
    have hT' := ((hT.next hzX hTP).keep0 X5_4).keep X5_5 (fun k hk => hnoA k (by simpa using hk))
    rw [show (bss.take i).map (0 :: ·) ++ [0 :: bs] = (bss.take (i + 1)).map (0 :: ·) by rw [List.take_add_one, hbs]; simp] at hT'
    have hno' : ∀ k, v5.ownBlock = some k → ¬ Adds A' w1.heap.size w2.heap.size k := fun k hk => (F5_5 k hk).elim (fun h => hnoA k h) (fun h h2 => h2.elim (fun h3 => by have := hA' k h3; omega) (fun h3 => by omega))
    have hX' : Chg w w5 (foot ts) := (((hX.trans hTP.chg).trans X5_4).trans X5_5).mono (by intro k' hk' hlt; simp at hk'; rcases hk' with hk' | hk' | hk'; exact hk'; rcases hT.foot k' hk' with h | h; exact h; omega; have := (hown0.lt k' hk').1; omega)
    replace hown : w5.ownsRow w.heap.size 28 32 v5 (i + 1) (natsC .u8 ((bss.take (i + 1)).map Sp.leaf).flatten) := by
      rw [List.take_add_one, hbs]; simpa [natsC_append] using hown
    refine s_val rfl rfl (runs_assign rfl) ?_
    refine s_nil ?_
    refine hK7 _ _ ?_
    refine c_reg ?_
    refine s_val rfl rfl (runs_add64 rfl rfl (by omega)) ?_
    refine s_val rfl rfl (runs_move rfl) ?_
    refine s_nil ?_
    dsimp only [Post.setN]
    exact ⟨(i + 1, v5), ⟨rfl, rfl, rfl, rfl, rfl, trivial⟩, ⟨by dsimp only; omega, hown, hG, hX', _, ts'', hT', hno'⟩, by dsimp only; omega⟩
  · refine c_exit ?_
    refine hK3 _ _ ?_
    refine c_seqreg (fun K12 hK12 => ?_)
    refine s_val rfl rfl (runs_move rfl) ?_
    refine s_val rfl rfl (runs_assign rfl) ?_
    refine s_nil ?_
    refine hK12 _ _ ?_
    refine c_ret ?_
    refine hret _ _ ?_
    exact ends1 (reads_tmp rfl) ⟨by
      obtain rfl : i = n := by omega
      rw [List.take_of_length_le (by omega)] at hown
      exact hown, hX, A', ts', by
      rw [List.take_of_length_le (by omega)] at hT
      exact hT, hno⟩
end Go.Proofs.YtecpedpfkdnfhaaDoor
