/- history.Leaf, Node and split answer as the specification says. Conditions: none beyond those in the theorems. By an AI agent. -/
import Derived.Test.YtlkeofjgmegcfaaDoorOf
import Derived.Test.YtlkeofjgmegcfaaDoorSp2
namespace Go.Proofs.YtlkeofjgmegcfaaDoor
open Go Go.RowKit

/-- A variable that holds a slice of one byte. -/
structure Mark (B : Nat) (w : World) (g x : Nat) : Prop where
  rd : ∃ a c, w.cell? ⟨g, 0, none⟩ = some (.slice a 1 c) ∧ Bytes w a 1 c [x] ∧ ∀ p, a = some p → p.block < B
  lt : g < B
theorem Mark.keep {B : Nat} {w w' : World} {g x : Nat} {M : List Nat} (h : Mark B w g x) (X : Chg w w' M) (hM : ∀ k ∈ M, B ≤ k) : Mark B w' g x := by
  obtain ⟨a, c, h1, h2, h3⟩ := h.rd
  have hlt := h.lt
  exact ⟨⟨a, c, X.cell h1 (fun hm => by have := hM _ hm; simp only at this; omega), h2.keep X (fun p hp hm => by have := hM _ hm; have := h3 p hp; omega), h3⟩, h.lt⟩
/-- The tables and marks, below block B. -/
structure GH (B : Nat) (w : World) : Prop where
  sha : GS B w
  leaf : Mark B w 0 0
  node : Mark B w 1 1
theorem GH.keep {B : Nat} {w w' : World} {M : List Nat} (h : GH B w) (X : Chg w w' M) (hM : ∀ k ∈ M, B ≤ k) : GH B w' := ⟨h.sha.keep X hM, h.leaf.keep X hM, h.node.keep X hM⟩

/-- Of two slices of bytes, laid in a literal. -/
theorem parts_two {w : World} {b : Nat} {a1 a2 : Option Addr} {n1 n2 c1 c2 : Nat} {x y : List Nat} {t : TypeId} (hb : Blk w b (flatC [.slice a1 n1 c1, .slice a2 n2 c2]) t) (h1 : Bytes w a1 n1 c1 x) (h2 : Bytes w a2 n2 c2 y)
    (l1 : ∀ v ∈ x, v < 256) (l2 : ∀ v ∈ y, v < 256) : Parts w (some ⟨b, 0, none⟩) 2 2 [x, y] := by
  refine ⟨⟨_, lit_reads hb rfl (by decide), rfl, ?_⟩⟩
  intro i v bs hv hbs
  match i, hv, hbs with
  | 0, hv, hbs =>
    simp [flatC, Value.cells] at hv hbs
    subst hv hbs
    exact ⟨⟨a1, c1, by rw [h1.length], by rw [h1.length]; exact h1⟩, l1⟩
  | 1, hv, hbs =>
    simp [flatC, Value.cells] at hv hbs
    subst hv hbs
    exact ⟨⟨a2, c2, by rw [h2.length], by rw [h2.length]; exact h2⟩, l2⟩
  | i + 2, hv, hbs => simp [flatC, Value.cells] at hv
theorem parts_three {w : World} {b : Nat} {a1 a2 a3 : Option Addr} {n1 n2 n3 c1 c2 c3 : Nat} {x y z : List Nat} {t : TypeId} (hb : Blk w b (flatC [.slice a1 n1 c1, .slice a2 n2 c2, .slice a3 n3 c3]) t) (h1 : Bytes w a1 n1 c1 x) (h2 : Bytes w a2 n2 c2 y) (h3 : Bytes w a3 n3 c3 z)
    (l1 : ∀ v ∈ x, v < 256) (l2 : ∀ v ∈ y, v < 256) (l3 : ∀ v ∈ z, v < 256) : Parts w (some ⟨b, 0, none⟩) 3 3 [x, y, z] := by
  refine ⟨⟨_, lit_reads hb rfl (by decide), rfl, ?_⟩⟩
  intro i v bs hv hbs
  match i, hv, hbs with
  | 0, hv, hbs =>
    simp [flatC, Value.cells] at hv hbs
    subst hv hbs
    exact ⟨⟨a1, c1, by rw [h1.length], by rw [h1.length]; exact h1⟩, l1⟩
  | 1, hv, hbs =>
    simp [flatC, Value.cells] at hv hbs
    subst hv hbs
    exact ⟨⟨a2, c2, by rw [h2.length], by rw [h2.length]; exact h2⟩, l2⟩
  | 2, hv, hbs =>
    simp [flatC, Value.cells] at hv hbs
    subst hv hbs
    exact ⟨⟨a3, c3, by rw [h3.length], by rw [h3.length]; exact h3⟩, l3⟩
  | i + 3, hv, hbs => simp [flatC, Value.cells] at hv
/-- A hash: 32 bytes. -/
def HOk (h : List Nat) : Prop := h.length = 32 ∧ ∀ x ∈ h, x < 256
theorem sha_ok (b : List Nat) : HOk (Sp.sha b) := ⟨sha_length b, sha_lt b⟩
abbrev hv (h : List Nat) : Value := .agg (natsC .u8 h).toArray

set_option maxHeartbeats 1000000 in
theorem leaf_calls (B : Nat) (A : Nat → Prop) (tv : Value) (ts : TS) (b : List Nat) (a : Option Addr) (n c : Nat) (w : World) (hG : GH B w) (hBw : B ≤ w.heap.size) (hb : Bytes w a n c b) (hbl : ∀ x ∈ b, x < 256) (hn : n ≤ 1099511627000)
    (hT : TArg w B A tv ts) (hA : ∀ k, A k → k < w.heap.size) (htl : ts.len ≤ 1073741824) :
    CallsR Tryd.prog 25 #[tv, .slice a n c] w fun v w' => v = hv (Sp.leaf b) ∧ ∃ ts', TPost w w' B A tv ts ts' [0 :: b] := by
  have hlen := hb.length
  have hTf := hT.foot_hi
  have hTl := hT.foot_lo
  refine f_enter (l := [tv, .slice a n c]) Tryd.func25 rfl rfl rfl rfl ?_
  intro Qf hnrm hret
  refine c_seqreg (fun K1 hK1 => ?_)
  refine s_alloc ty43 rfl rfl ?_
  intro b4 w1 e0_0 z0_0 hb4 X0_0
  replace hG := hG.keep X0_0 (by simp)
  replace hT := hT.keep0 X0_0
  replace hb := hb.keep X0_0 (by simp)
  obtain ⟨am, cm, hmc, hmr, hml⟩ := hG.leaf.rd
  refine s_nil ?_
  refine hK1 _ _ ?_
  refine c_seqreg (fun K3 hK3 => ?_)
  refine s_val rfl rfl (runs_move rfl) ?_
  refine s_val rfl rfl (runs_load1 ty64 rfl hmc) ?_
  refine s_val rfl rfl (runs_move rfl) ?_
  refine s_lit (xs := [.tmp 6, .tmp 7]) Tryd.underlying39 ty64 rfl rfl rfl rfl rfl (by simp [Value.cells]) (by decide) (by decide) ?_
  intro b8 w2 e1_3 z1_3 hb8 X1_3
  have s1_3_hb4 := hb4.lt
  replace hG := hG.keep X1_3 (by simp)
  replace hT := hT.keep0 X1_3
  replace hb := hb.keep X1_3 (by simp)
  replace hb4 := hb4.keep X1_3 (by simp)
  replace hmr := hmr.keep X1_3 (by simp)
  refine s_callf (xs := [.tmp 5, .tmp 8]) rfl rfl Tryd.func24 rfl (by kernel_rfl) rfl (of_calls B A tv ts [[0], b] _ _ _ _ hG.sha (by have := hb4.lt; omega) (parts_two hb8 hmr hb (by simp) hbl) (by simp; omega) hT (fun k hk => by have := hA k hk; omega) htl) ?_
  rintro v9 w3 ⟨rfl, ts', hTP⟩
  replace hb4 := hb4.keep hTP.chg (fun hm => by have := hA _ (hTf _ hm); omega)
  have zs1_4 := hTP.chg.size
  refine s_storeAll ty43 rfl rfl rfl hb4 (by rw [natsC_length, sha_length]) rfl (natsC_one _ _) ?_
  intro w4 z1_5 h1_5 X1_5
  replace hb4 := h1_5
  refine s_nil ?_
  refine hK3 _ _ ?_
  refine c_ret ?_
  refine hret _ _ ?_
  refine ends1 (reads_cell ty43 rfl hb4.at (by rw [natsC_length, sha_length])) ⟨by simp [hv, Sp.leaf], ts', ?_⟩
  have hTP' := TPost.wrap (X0_0.trans X1_3) (by simp) hTP X1_5 (by intro k hk; obtain rfl : k = b4 := (by simpa using hk); exact ⟨by omega, fun h => h.elim (fun h => by have := hA _ h; omega) (fun h => by omega)⟩)
  simpa using hTP'

set_option maxHeartbeats 1000000 in
theorem node_calls (B : Nat) (A : Nat → Prop) (tv : Value) (ts : TS) (x y : List Nat) (w : World) (hG : GH B w) (hBw : B ≤ w.heap.size) (hx : HOk x) (hy : HOk y)
    (hT : TArg w B A tv ts) (hA : ∀ k, A k → k < w.heap.size) (htl : ts.len ≤ 1073741824) :
    CallsR Tryd.prog 29 #[tv, hv x, hv y] w fun v w' => v = hv (Sp.node x y) ∧ ∃ ts', TPost w w' B A tv ts ts' [1 :: (x ++ y)] := by
  have hTf := hT.foot_hi
  have hTl := hT.foot_lo
  refine f_enter (l := [tv, hv x, hv y]) Tryd.func29 rfl rfl rfl rfl ?_
  intro Qf hnrm hret
  refine c_seqreg (fun K1 hK1 => ?_)
  refine s_box rfl rfl rfl ?_
  intro b4 w1 e0_0 z0_0 hb4 X0_0
  replace hG := hG.keep X0_0 (by simp)
  replace hT := hT.keep0 X0_0
  replace hb4 : Blk w1 b4 (natsC .u8 x) 43 := hb4
  refine s_box rfl rfl rfl ?_
  intro b5 w2 e0_1 z0_1 hb5 X0_1
  have s0_1_hb4 := hb4.lt
  replace hG := hG.keep X0_1 (by simp)
  replace hT := hT.keep0 X0_1
  replace hb4 := hb4.keep X0_1 (by simp)
  replace hb5 : Blk w2 b5 (natsC .u8 y) 43 := hb5
  refine s_alloc ty43 rfl rfl ?_
  intro b6 w3 e0_2 z0_2 hb6 X0_2
  have s0_2_hb4 := hb4.lt
  have s0_2_hb5 := hb5.lt
  replace hG := hG.keep X0_2 (by simp)
  replace hT := hT.keep0 X0_2
  replace hb4 := hb4.keep X0_2 (by simp)
  replace hb5 := hb5.keep X0_2 (by simp)
  refine s_nil ?_
  refine hK1 _ _ ?_
  refine c_seqdraw [6] ((foot ts)) (by kernel_rfl) ?_
  intro K5 hK5 wd1 Xd1 hS1
  replace hG := hG.keep Xd1 (by simp)
  replace hT := hT.keep0 Xd1
  replace hb4 := hb4.keep Xd1 (by simp)
  replace hb5 := hb5.keep Xd1 (by simp)
  replace hb6 := hb6.keep Xd1 (by simp)
  have zd1 := Xd1.size
  obtain ⟨am, cm, hmc, hmr, hml⟩ := hG.node.rd
  have hz6 := hb6.lt
  have hzd := Xd1.size
  refine d_take 0 7 rfl (by kernel_rfl) rfl hS1 (fun wS hS => runs_move rfl) ?_
  refine d_take 1 8 rfl (by kernel_rfl) rfl hS1 (fun wS hS => runs_load1 ty64 rfl (hS.cell hmc (show 1 ∉ foot ts from fun hm => by have := hTl _ hm; have := hG.node.lt; omega))) ?_
  refine d_take 2 9 rfl (by kernel_rfl) rfl hS1 (fun wS hS => runs_slice_arr Tryd.underlying43 ty5 rfl) ?_
  refine d_take 3 10 rfl (by kernel_rfl) rfl hS1 (fun wS hS => runs_slice_arr Tryd.underlying43 ty5 rfl) ?_
  refine d_only 4 rfl (by kernel_rfl) ?_
  refine s_lit (xs := [.tmp 8, .tmp 9, .tmp 10]) Tryd.underlying39 ty64 rfl rfl rfl rfl rfl (by simp [Value.cells]) (by decide) (by decide) ?_
  intro b11 w4 e1_4 z1_4 hb11 X1_4
  replace hS1 : Chg wd1 _ ((foot ts)) := (hS1.trans X1_4).mono (by intro k hk hlt; simp at hk ⊢ <;> first | assumption | omega)
  refine s_nil ⟨.inr hS1, ?_⟩
  refine d_only 5 rfl (by kernel_rfl) ?_
  refine s_callf (xs := [.tmp 7, .tmp 11]) rfl rfl Tryd.func24 rfl (by kernel_rfl) rfl (of_calls B A tv ts [[1], x, y] _ _ _ _ (hG.keep X1_4 (by simp)).sha (by omega) (parts_three hb11 (hmr.grow X1_4) (lit_reads (hb4.keep X1_4 (by simp)) (by rw [natsC_length, hx.1]) (by decide)) (lit_reads (hb5.keep X1_4 (by simp)) (by rw [natsC_length, hy.1]) (by decide)) (by simp) hx.2 hy.2) (by simp [hx.1, hy.1]) (hT.keep0 X1_4) (fun k hk => by have := hA k hk; omega) htl) ?_
  rintro v9 w5 ⟨rfl, ts', hTP⟩
  have zs1_5 := hTP.chg.size
  replace hS1 : Chg wd1 _ ((foot ts)) := (hS1.trans hTP.chg).mono (by intro k hk hlt; simp at hk ⊢ <;> first | assumption | omega)
  refine s_nil ⟨.inr hS1, ?_⟩
  refine d_only 6 rfl (by kernel_rfl) ?_
  replace hb4 := hb4.keep hS1 (fun hm => by have := hA _ (hTf _ hm); omega)
  replace hb5 := hb5.keep hS1 (fun hm => by have := hA _ (hTf _ hm); omega)
  replace hb6 := hb6.keep hS1 (fun hm => by have := hA _ (hTf _ hm); omega)
  refine s_storeAll ty43 rfl rfl rfl hb6 (by rw [natsC_length, sha_length]) rfl (natsC_one _ _) ?_
  intro w6 z1_6 h1_6 X1_6
  replace hb4 := hb4.keep X1_6 (by simp; omega)
  replace hb5 := hb5.keep X1_6 (by simp; omega)
  replace hb6 := h1_6
  refine s_nil ⟨.inl rfl, ?_⟩
  refine d_done (by kernel_rfl) ?_
  refine hK5 _ _ ?_
  refine c_ret ?_
  refine hret _ _ ?_
  refine ends1 (reads_cell ty43 rfl hb6.at (by rw [natsC_length, sha_length])) ⟨by simp [hv, Sp.node], ts', ?_⟩
  have hTP' := TPost.wrap ((((X0_0.trans X0_1).trans X0_2).trans Xd1).trans X1_4) (by simp) hTP X1_6 (by intro k hk; obtain rfl : k = b6 := (by simpa using hk); exact ⟨by omega, fun h => h.elim (fun h => by have := hA _ h; omega) (fun h => by omega)⟩)
  simpa using hTP'

theorem split_calls (n : Nat) (w : World) (hn : n ≤ 1099511627776) : CallsR Tryd.prog 28 #[.int .i64 (n : Int)] w fun v w' => v = .int .i64 (Sp.split n : Nat) ∧ Chg w w' [] := by
  refine f_enter (l := [.int .i64 (n : Int)]) Tryd.func28 rfl rfl rfl rfl ?_
  intro Qf hnrm hret
  refine c_seqreg (fun K1 hK1 => ?_)
  refine s_val rfl rfl (runs_assign rfl) ?_
  refine s_nil ?_
  refine hK1 _ _ ?_
  refine c_scope (σ := Nat) 0 (fun k => [(0, .int .i64 (n : Int)), (3, .int .i64 (k : Int))]) (fun k w' => 0 < k ∧ (∃ f, n ≤ k + f ∧ Sp.splitGo n f k = Sp.split n) ∧ k ≤ n ∧ w' = w) (fun k => n - k) rfl ?_ ?_
  · refine c_seqreg (fun K2 hK2 => ?_)
    refine s_val rfl rfl (runs_assign rfl) ?_
    refine s_nil ?_
    refine hK2 _ _ ?_
    refine c_seq (fun K3 hK3 => ?_)
    refine c_label ?_
    refine hK3 _ _ ?_
    refine c_seq (fun K4 hK4 => ?_)
    refine c_seqreg (fun K5 hK5 => ?_)
    refine s_val rfl rfl (runs_move rfl) ?_
    refine s_val rfl rfl (runs_mul64 rfl rfl (by omega)) ?_
    refine s_val rfl rfl (runs_move rfl) ?_
    refine s_val rfl rfl (runs_lt rfl rfl) ?_
    refine s_nil ?_
    refine hK5 _ _ ?_
    refine c_dec rfl (fun hlt => ?_) (fun hlt => ?_)
    · refine c_seqreg (fun K6 hK6 => ?_)
      refine s_val rfl rfl (runs_move rfl) ?_
      refine s_val rfl rfl (runs_mul64 rfl rfl (by omega)) ?_
      refine s_val rfl rfl (runs_assign rfl) ?_
      refine s_nil ?_
      refine hK6 _ _ ?_
      refine c_goto ?_
      dsimp only [Post.setN, Post.setG, Post.blk]
      exact ⟨rfl, 2, ⟨rfl, i64_eq (by omega), trivial⟩, by omega, ⟨n - 1, by omega, (Sp.splitGo_step n n 1 (by omega) (by omega) (by omega)).symm⟩, by omega, rfl⟩
    · refine c_skip ?_
      refine hK4 _ _ ?_
      refine c_seqreg (fun K7 hK7 => ?_)
      refine s_val rfl rfl (runs_move rfl) ?_
      refine s_val rfl rfl (runs_assign rfl) ?_
      refine s_nil ?_
      refine hK7 _ _ ?_
      refine c_ret ?_
      refine hret _ _ ?_
      exact ends1 (reads_tmp rfl) ⟨by rw [Sp.split, Sp.splitGo_stop n n 1 (by omega)]; rfl, Chg.refl _ _⟩
  · intro k w1 ⟨hk, ⟨f, hf, he⟩, hkn, hw⟩
    subst hw
    refine c_seq (fun K8 hK8 => ?_)
    refine c_skip ?_
    refine hK8 _ _ ?_
    refine c_seq (fun K9 hK9 => ?_)
    refine c_seqreg (fun K10 hK10 => ?_)
    refine s_val rfl rfl (runs_move rfl) ?_
    refine s_val rfl rfl (runs_mul64 rfl rfl (by omega)) ?_
    refine s_val rfl rfl (runs_move rfl) ?_
    refine s_val rfl rfl (runs_lt rfl rfl) ?_
    refine s_nil ?_
    refine hK10 _ _ ?_
    refine c_dec rfl (fun hlt => ?_) (fun hlt => ?_)
    · refine c_seqreg (fun K11 hK11 => ?_)
      refine s_val rfl rfl (runs_move rfl) ?_
      refine s_val rfl rfl (runs_mul64 rfl rfl (by omega)) ?_
      refine s_val rfl rfl (runs_assign rfl) ?_
      refine s_nil ?_
      refine hK11 _ _ ?_
      refine c_goto ?_
      dsimp only [Post.setN, Post.setG, Post.blk]
      exact ⟨rfl, 2 * k, ⟨rfl, i64_eq (by omega), trivial⟩, ⟨by omega, ⟨f - 1, by omega, by rw [← he]; exact (Sp.splitGo_step n f k (by omega) hf hk).symm⟩, by omega, rfl⟩, by omega⟩
    · refine c_skip ?_
      refine hK9 _ _ ?_
      refine c_seqreg (fun K12 hK12 => ?_)
      refine s_val rfl rfl (runs_move rfl) ?_
      refine s_val rfl rfl (runs_assign rfl) ?_
      refine s_nil ?_
      refine hK12 _ _ ?_
      refine c_ret ?_
      refine hret _ _ ?_
      exact ends1 (reads_tmp rfl) ⟨by rw [← he, Sp.splitGo_stop n f k (by omega)], Chg.refl _ _⟩
end Go.Proofs.YtlkeofjgmegcfaaDoor
