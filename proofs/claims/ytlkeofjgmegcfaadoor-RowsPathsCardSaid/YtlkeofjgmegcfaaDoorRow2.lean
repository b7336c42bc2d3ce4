/- Part Row2 of the proofs on this seat. Conditions: none beyond those in the theorems. By an AI agent. -/
import Derived.Test.YtlkeofjgmegcfaaDoorRow1
namespace Go.Proofs.YtlkeofjgmegcfaaDoor
open Go Go.RowKit

/-- A row's cells within a list. -/
theorem rows_elem {w : World} {b o n c : Nat} {rs : List Rw} {i : Nat} {r : Rw} (h : SlR w 14 (some ⟨b, o, none⟩) n c (rs.flatMap Rw.C)) (hr : rs[i]? = some r) : At w b (o + i * 14) r.C := by
  have := h.elem i
  rwa [rows_at rs i r hr] at this
theorem lsLen_calls {w : World} {lo hi bx : Nat} {v1 v2 : Value} {rs : List Rw} (hL : LsV w lo hi bx v1 v2 rs) :
    CallsR Tryd.prog 12 #[.pointer (some ⟨bx, 0, none⟩)] w fun v w' => v = .int .i64 (rs.length : Int) ∧ Chg w w' [] := by
  obtain ⟨a1, c1, rfl, hR1, _⟩ := own_reads hL.own1
  refine f_enter (l := [.pointer (some ⟨bx, 0, none⟩)]) Tryd.func12 rfl rfl rfl rfl ?_
  intro Qf hnrm hret
  refine c_seqreg (fun K1 hK1 => ?_)
  refine s_val rfl rfl (runs_assign rfl) ?_
  refine s_nil ?_
  refine hK1 _ _ ?_
  refine c_seqreg (fun K2 hK2 => ?_)
  refine s_val rfl rfl (runs_move rfl) ?_
  refine s_val rfl rfl (runs_nilCheck rfl) ?_
  refine s_val rfl rfl (runs_fieldAddr Tryd.underlying53 rfl ty22 (by decide) rfl) ?_
  refine s_val rfl rfl (runs_load1 ty22 rfl (hL.blk.cell (o := 0) rfl)) ?_
  refine s_val rfl rfl (runs_len_slice Tryd.underlying22 rfl) ?_
  refine s_val rfl rfl (runs_assign rfl) ?_
  refine s_nil ?_
  refine hK2 _ _ ?_
  refine c_ret ?_
  refine hret _ _ ?_
  exact ends1 (reads_tmp rfl) ⟨rfl, Chg.refl _ _⟩
theorem lsAt_calls {w : World} {lo hi bx : Nat} {v1 v2 : Value} {rs : List Rw} (hL : LsV w lo hi bx v1 v2 rs) (i : Nat) (r : Rw) (hr : rs[i]? = some r) :
    CallsR Tryd.prog 13 #[.pointer (some ⟨bx, 0, none⟩), .int .i64 (i : Int)] w fun v w' => v = rv r ∧ Chg w w' [] := by
  obtain ⟨a1, c1, rfl, hR1, _⟩ := own_reads hL.own1
  have hi' := (List.getElem?_eq_some_iff.1 hr).1
  obtain ⟨b1, o1, rfl⟩ := hR1.some_ (by omega)
  have hat := rows_elem hR1 hr
  have hX : Chg w w [] := Chg.refl _ _
  have hbx := hL.blk
  refine f_enter (l := [.pointer (some ⟨bx, 0, none⟩), .int .i64 (i : Int)]) Tryd.func13 rfl rfl rfl rfl ?_
  intro Qf hnrm hret
  refine c_seqreg (fun K1 hK1 => ?_)
  refine s_alloc ty34 rfl rfl ?_
  intro b4 w1 e0_0 z0_0 hb4 X0_0
  have s0_0_hX := hX.size
  have s0_0_hbx := hbx.lt
  replace hX : Chg w _ [] := (hX.trans X0_0).mono (by intro k hk hlt; simp at hk ⊢ <;> first | omega | grind)
  replace hbx := hbx.keep X0_0 (by simp)
  replace hat := hat.keep X0_0 (by simp)
  refine s_nil ?_
  refine hK1 _ _ ?_
  refine c_seqreg (fun K3 hK3 => ?_)
  refine s_val rfl rfl (runs_move rfl) ?_
  refine s_val rfl rfl (runs_nilCheck rfl) ?_
  refine s_val rfl rfl (runs_fieldAddr Tryd.underlying53 rfl ty22 (by decide) rfl) ?_
  refine s_val rfl rfl (runs_load1 ty22 rfl (hbx.cell (o := 0) rfl)) ?_
  refine s_val rfl rfl (runs_move rfl) ?_
  refine s_val rfl rfl (runs_index_slice (i) Tryd.underlying22 ty34 rfl rfl (by omega) (by omega)) ?_
  refine s_val rfl rfl (runs_loadAgg ty34 rfl hat (Rw.len r)) ?_
  refine s_storeAll ty34 rfl rfl rfl hb4 (Rw.len r) rfl (Rw.one r) ?_
  intro w2 z1_7 h1_7 X1_7
  replace hX : Chg w _ [] := (hX.trans X1_7).mono (by intro k hk hlt; simp at hk ⊢ <;> first | omega | grind)
  replace hb4 := h1_7
  refine s_nil ?_
  refine hK3 _ _ ?_
  refine c_ret ?_
  refine hret _ _ ?_
  exact ends1 (reads_cell ty34 rfl hb4.at (Rw.len r)) ⟨rfl, hX⟩
/-- What Span answers. -/
structure SpanIs (rs : List Rw) (fr to lim : Int) (i k : Nat) : Prop where
  i_le : i ≤ rs.length
  low : ∀ j, j < i → ∀ r, rs[j]? = some r → r.time < fr
  at_ : ∀ r, rs[i]? = some r → ¬ r.time < fr
  k_le : i + k ≤ rs.length
  in_ : ∀ j, j < k → (∀ r, rs[i + j]? = some r → r.time ≤ to) ∧ (j : Int) < lim
  end_ : ∀ r, rs[i + k]? = some r → ¬ (r.time ≤ to ∧ (k : Int) < lim)
set_option maxHeartbeats 1000000 in
theorem span_calls {w : World} {lo hi bx : Nat} {v1 v2 : Value} {rs : List Rw} (hL : LsV w lo hi bx v1 v2 rs) (fr to lim : Int) (hn : rs.length ≤ 1000) :
    CallsR Tryd.prog 11 #[.pointer (some ⟨bx, 0, none⟩), .int .i64 fr, .int .i64 to, .int .i64 lim] w fun v w' => ∃ i k : Nat, v = .tuple #[.int .i64 (i : Int), .int .i64 (k : Int)] ∧ SpanIs rs fr to lim i k ∧ w' = w := by
  obtain ⟨a1, c1, rfl, hR1, _⟩ := own_reads hL.own1
  obtain ⟨n, hnn⟩ : ∃ n, n = rs.length := ⟨_, rfl⟩
  have hbx := hL.blk
  rw [← hnn] at hbx hR1 hn
  refine f_enter (l := [.pointer (some ⟨bx, 0, none⟩), .int .i64 fr, .int .i64 to, .int .i64 lim]) Tryd.func11 rfl rfl rfl rfl ?_
  intro Qf hnrm hret
  refine c_seqreg (fun K1 hK1 => ?_)
  refine s_val rfl rfl (runs_assign rfl) ?_
  refine s_val rfl rfl (runs_assign rfl) ?_
  refine s_nil ?_
  refine hK1 _ _ ?_
  refine c_seqreg (fun K2 hK2 => ?_)
  refine s_val rfl rfl (runs_assign rfl) ?_
  refine s_nil ?_
  refine hK2 _ _ ?_
  refine c_seq (fun K3 hK3 => ?_)
  have hJ3 : ∀ (i : Nat) (W : World), (W = w ∧ i ≤ n ∧ (∀ j, j < i → ∀ r, rs[j]? = some r → r.time < fr) ∧ (∀ r, rs[i]? = some r → ¬ r.time < fr)) → ∀ ρ : Env, SubL ([(10, .int .i64 (i : Int)), (0, .pointer (some ⟨bx, 0, none⟩)), (2, .int .i64 to), (3, .int .i64 lim)]) ρ → K3 ρ W := by
    intro i W hI ρ hρ
    refine hK3 _ _ (c_sub _ hρ ?_)
    clear hρ
    obtain ⟨rfl, hi, hlow, hat⟩ := hI
    refine c_seqreg (fun K4 hK4 => ?_)
    refine s_val rfl rfl (runs_assign rfl) ?_
    refine s_nil ?_
    refine hK4 _ _ ?_
    refine c_seq (fun K5 hK5 => ?_)
    refine c_block ?_
    refine c_loop (σ := Nat) (fun k => [(11, .int .i64 (k : Int)), (10, .int .i64 (i : Int)), (0, .pointer (some ⟨bx, 0, none⟩)), (2, .int .i64 to), (3, .int .i64 lim)]) (fun k w' => w' = W ∧ i + k ≤ n ∧ ∀ j, j < k → (∀ r, rs[i + j]? = some r → r.time ≤ to) ∧ (j : Int) < lim) (fun k => n - k) 0 ⟨rfl, rfl, rfl, rfl, rfl, trivial⟩ ⟨rfl, by omega, fun j hj => by omega⟩ ?_
    rintro k wi ⟨rfl, hk, hin_⟩
    refine c_seq (fun K6 hK6 => ?_)
    rcases Decidable.em (i + k < n) with hin | hin
    rotate_left
    have htags : True := trivial
    rotate_left
    obtain ⟨r, hr⟩ : ∃ r, rs[i + k]? = some r := ⟨_, List.getElem?_eq_getElem (by omega)⟩
    obtain ⟨b1, o1, rfl⟩ := hR1.some_ (by omega)
    have hatr := rows_elem hR1 hr
    rcases (show (r.time ≤ to ∧ (k : Int) < lim) ∨ (r.time ≤ to ∧ ¬ (k : Int) < lim) ∨ ¬ r.time ≤ to by omega) with ⟨ht, hl⟩ | ⟨ht, hl⟩ | ht
    rotate_left
    rotate_left
    rotate_left
    · refine c_seqreg (fun K7 hK7 => ?_)
      refine s_val rfl rfl (runs_move rfl) ?_
      refine s_val rfl rfl (runs_move rfl) ?_
      refine s_val rfl rfl (runs_as (v' := .int .i64 ((i + k : Nat) : Int)) (runs_add64 rfl rfl (by omega)) (congrArg (Value.int .i64) (by omega))) ?_
      refine s_val rfl rfl (runs_move rfl) ?_
      refine s_val rfl rfl (runs_nilCheck rfl) ?_
      refine s_val rfl rfl (runs_fieldAddr Tryd.underlying53 rfl ty22 (by decide) rfl) ?_
      refine s_val rfl rfl (runs_load1 ty22 rfl (hbx.cell (o := 0) rfl)) ?_
      refine s_val rfl rfl (runs_len_slice Tryd.underlying22 rfl) ?_
      refine s_val rfl rfl (runs_df (runs_lt rfl rfl) (by omega)) ?_
      refine s_val rfl rfl (runs_move rfl) ?_
      refine s_skip rfl rfl ?_
      refine s_skip rfl rfl ?_
      refine s_skip rfl rfl ?_
      refine s_skip rfl rfl ?_
      refine s_skip rfl rfl ?_
      refine s_skip rfl rfl ?_
      refine s_skip rfl rfl ?_
      refine s_skip rfl rfl ?_
      refine s_skip rfl rfl ?_
      refine s_skip rfl rfl ?_
      refine s_skip rfl rfl ?_
      refine s_skip rfl rfl ?_
      refine s_val rfl rfl (runs_pickf rfl rfl) ?_
      refine s_val rfl rfl (runs_move rfl) ?_
      refine s_skip rfl rfl ?_
      refine s_skip rfl rfl ?_
      refine s_skip rfl rfl ?_
      refine s_val rfl rfl (runs_pickf rfl rfl) ?_
      refine s_nil ?_
      refine hK7 _ _ ?_
      refine c_false rfl ?_
      refine c_exit ?_
      refine hK5 _ _ ?_
      refine c_seqreg (fun K8 hK8 => ?_)
      refine s_val rfl rfl (runs_move rfl) ?_
      refine s_val rfl rfl (runs_move rfl) ?_
      refine s_val rfl rfl (runs_assign rfl) ?_
      refine s_val rfl rfl (runs_assign rfl) ?_
      refine s_nil ?_
      refine hK8 _ _ ?_
      refine c_ret ?_
      refine hret _ _ ?_
      refine ends2 (reads_tmp rfl) (reads_tmp rfl) ⟨i, k, rfl, ⟨by omega, hlow, hat, by omega, hin_, fun r hr => by have := (List.getElem?_eq_some_iff.1 hr).1; omega⟩, rfl⟩
    · refine c_seqreg (fun K7 hK7 => ?_)
      refine s_val rfl rfl (runs_move rfl) ?_
      refine s_val rfl rfl (runs_move rfl) ?_
      refine s_val rfl rfl (runs_as (v' := .int .i64 ((i + k : Nat) : Int)) (runs_add64 rfl rfl (by omega)) (congrArg (Value.int .i64) (by omega))) ?_
      refine s_val rfl rfl (runs_move rfl) ?_
      refine s_val rfl rfl (runs_nilCheck rfl) ?_
      refine s_val rfl rfl (runs_fieldAddr Tryd.underlying53 rfl ty22 (by decide) rfl) ?_
      refine s_val rfl rfl (runs_load1 ty22 rfl (hbx.cell (o := 0) rfl)) ?_
      refine s_val rfl rfl (runs_len_slice Tryd.underlying22 rfl) ?_
      refine s_val rfl rfl (runs_dt (runs_lt rfl rfl) (by omega)) ?_
      refine s_val rfl rfl (runs_move rfl) ?_
      refine s_val rfl rfl (runs_move rfl) ?_
      refine s_val rfl rfl (runs_nilCheck rfl) ?_
      refine s_val rfl rfl (runs_fieldAddr Tryd.underlying53 rfl ty22 (by decide) rfl) ?_
      refine s_val rfl rfl (runs_load1 ty22 rfl (hbx.cell (o := 0) rfl)) ?_
      refine s_val rfl rfl (runs_move rfl) ?_
      refine s_val rfl rfl (runs_move rfl) ?_
      refine s_val rfl rfl (runs_as (v' := .int .i64 ((i + k : Nat) : Int)) (runs_add64 rfl rfl (by omega)) (congrArg (Value.int .i64) (by omega))) ?_
      refine s_val rfl rfl (runs_index_slice (i + k) Tryd.underlying22 ty34 rfl rfl (by omega) (by omega)) ?_
      refine s_val rfl rfl (runs_fieldAddr Tryd.underlying34 rfl ty3 (by decide) rfl) ?_
      refine s_val rfl rfl (runs_load1 ty3 rfl (hatr 2 _ rfl)) ?_
      refine s_val rfl rfl (runs_move rfl) ?_
      refine s_val rfl rfl (runs_dt (runs_le rfl rfl) ht) ?_
      refine s_val rfl rfl (runs_pickt rfl rfl) ?_
      refine s_val rfl rfl (runs_move rfl) ?_
      refine s_val rfl rfl (runs_move rfl) ?_
      refine s_val rfl rfl (runs_move rfl) ?_
      refine s_val rfl rfl (runs_dt (runs_lt rfl rfl) hl) ?_
      refine s_val rfl rfl (runs_pickt rfl rfl) ?_
      refine s_nil ?_
      refine hK7 _ _ ?_
      refine c_true rfl ?_
      refine c_skip ?_
      refine hK6 _ _ ?_
      refine c_block ?_
      refine c_reg ?_
      refine s_val rfl rfl (runs_move rfl) ?_
      refine s_val rfl rfl (runs_add64 rfl rfl (by omega)) ?_
      refine s_val rfl rfl (runs_assign rfl) ?_
      refine s_nil ?_
      dsimp only [Post.setN]
      exact ⟨k + 1, ⟨rfl, rfl, rfl, rfl, rfl, trivial⟩, ⟨rfl, by omega, fun j hj => by
        by_cases h : j = k
        · subst h; exact ⟨fun r' hr' => by rw [hr] at hr'; cases hr'; exact ht, hl⟩
        · exact hin_ j (by omega)⟩, by omega⟩
    · refine c_seqreg (fun K7 hK7 => ?_)
      refine s_val rfl rfl (runs_move rfl) ?_
      refine s_val rfl rfl (runs_move rfl) ?_
      refine s_val rfl rfl (runs_as (v' := .int .i64 ((i + k : Nat) : Int)) (runs_add64 rfl rfl (by omega)) (congrArg (Value.int .i64) (by omega))) ?_
      refine s_val rfl rfl (runs_move rfl) ?_
      refine s_val rfl rfl (runs_nilCheck rfl) ?_
      refine s_val rfl rfl (runs_fieldAddr Tryd.underlying53 rfl ty22 (by decide) rfl) ?_
      refine s_val rfl rfl (runs_load1 ty22 rfl (hbx.cell (o := 0) rfl)) ?_
      refine s_val rfl rfl (runs_len_slice Tryd.underlying22 rfl) ?_
      refine s_val rfl rfl (runs_dt (runs_lt rfl rfl) (by omega)) ?_
      refine s_val rfl rfl (runs_move rfl) ?_
      refine s_val rfl rfl (runs_move rfl) ?_
      refine s_val rfl rfl (runs_nilCheck rfl) ?_
      refine s_val rfl rfl (runs_fieldAddr Tryd.underlying53 rfl ty22 (by decide) rfl) ?_
      refine s_val rfl rfl (runs_load1 ty22 rfl (hbx.cell (o := 0) rfl)) ?_
      refine s_val rfl rfl (runs_move rfl) ?_
      refine s_val rfl rfl (runs_move rfl) ?_
      refine s_val rfl rfl (runs_as (v' := .int .i64 ((i + k : Nat) : Int)) (runs_add64 rfl rfl (by omega)) (congrArg (Value.int .i64) (by omega))) ?_
      refine s_val rfl rfl (runs_index_slice (i + k) Tryd.underlying22 ty34 rfl rfl (by omega) (by omega)) ?_
      refine s_val rfl rfl (runs_fieldAddr Tryd.underlying34 rfl ty3 (by decide) rfl) ?_
      refine s_val rfl rfl (runs_load1 ty3 rfl (hatr 2 _ rfl)) ?_
      refine s_val rfl rfl (runs_move rfl) ?_
      refine s_val rfl rfl (runs_dt (runs_le rfl rfl) ht) ?_
      refine s_val rfl rfl (runs_pickt rfl rfl) ?_
      refine s_val rfl rfl (runs_move rfl) ?_
      refine s_val rfl rfl (runs_move rfl) ?_
      refine s_val rfl rfl (runs_move rfl) ?_
      refine s_val rfl rfl (runs_df (runs_lt rfl rfl) hl) ?_
      refine s_val rfl rfl (runs_pickt rfl rfl) ?_
      refine s_nil ?_
      refine hK7 _ _ ?_
      refine c_false rfl ?_
      refine c_exit ?_
      refine hK5 _ _ ?_
      refine c_seqreg (fun K9 hK9 => ?_)
      refine s_val rfl rfl (runs_move rfl) ?_
      refine s_val rfl rfl (runs_move rfl) ?_
      refine s_val rfl rfl (runs_assign rfl) ?_
      refine s_val rfl rfl (runs_assign rfl) ?_
      refine s_nil ?_
      refine hK9 _ _ ?_
      refine c_ret ?_
      refine hret _ _ ?_
      refine ends2 (reads_tmp rfl) (reads_tmp rfl) ⟨i, k, rfl, ⟨by omega, hlow, hat, by omega, hin_, fun r' hr' => by rw [hr] at hr'; cases hr'; omega⟩, rfl⟩
    · refine c_seqreg (fun K7 hK7 => ?_)
      refine s_val rfl rfl (runs_move rfl) ?_
      refine s_val rfl rfl (runs_move rfl) ?_
      refine s_val rfl rfl (runs_as (v' := .int .i64 ((i + k : Nat) : Int)) (runs_add64 rfl rfl (by omega)) (congrArg (Value.int .i64) (by omega))) ?_
      refine s_val rfl rfl (runs_move rfl) ?_
      refine s_val rfl rfl (runs_nilCheck rfl) ?_
      refine s_val rfl rfl (runs_fieldAddr Tryd.underlying53 rfl ty22 (by decide) rfl) ?_
      refine s_val rfl rfl (runs_load1 ty22 rfl (hbx.cell (o := 0) rfl)) ?_
      refine s_val rfl rfl (runs_len_slice Tryd.underlying22 rfl) ?_
      refine s_val rfl rfl (runs_dt (runs_lt rfl rfl) (by omega)) ?_
      refine s_val rfl rfl (runs_move rfl) ?_
      refine s_val rfl rfl (runs_move rfl) ?_
      refine s_val rfl rfl (runs_nilCheck rfl) ?_
      refine s_val rfl rfl (runs_fieldAddr Tryd.underlying53 rfl ty22 (by decide) rfl) ?_
      refine s_val rfl rfl (runs_load1 ty22 rfl (hbx.cell (o := 0) rfl)) ?_
      refine s_val rfl rfl (runs_move rfl) ?_
      refine s_val rfl rfl (runs_move rfl) ?_
      refine s_val rfl rfl (runs_as (v' := .int .i64 ((i + k : Nat) : Int)) (runs_add64 rfl rfl (by omega)) (congrArg (Value.int .i64) (by omega))) ?_
      refine s_val rfl rfl (runs_index_slice (i + k) Tryd.underlying22 ty34 rfl rfl (by omega) (by omega)) ?_
      refine s_val rfl rfl (runs_fieldAddr Tryd.underlying34 rfl ty3 (by decide) rfl) ?_
      refine s_val rfl rfl (runs_load1 ty3 rfl (hatr 2 _ rfl)) ?_
      refine s_val rfl rfl (runs_move rfl) ?_
      refine s_val rfl rfl (runs_df (runs_le rfl rfl) ht) ?_
      refine s_val rfl rfl (runs_pickt rfl rfl) ?_
      refine s_val rfl rfl (runs_move rfl) ?_
      refine s_skip rfl rfl ?_
      refine s_skip rfl rfl ?_
      refine s_skip rfl rfl ?_
      refine s_val rfl rfl (runs_pickf rfl rfl) ?_
      refine s_nil ?_
      refine hK7 _ _ ?_
      refine c_false rfl ?_
      refine c_exit ?_
      refine hK5 _ _ ?_
      refine c_seqreg (fun K10 hK10 => ?_)
      refine s_val rfl rfl (runs_move rfl) ?_
      refine s_val rfl rfl (runs_move rfl) ?_
      refine s_val rfl rfl (runs_assign rfl) ?_
      refine s_val rfl rfl (runs_assign rfl) ?_
      refine s_nil ?_
      refine hK10 _ _ ?_
      refine c_ret ?_
      refine hret _ _ ?_
      refine ends2 (reads_tmp rfl) (reads_tmp rfl) ⟨i, k, rfl, ⟨by omega, hlow, hat, by omega, hin_, fun r' hr' => by rw [hr] at hr'; cases hr'; omega⟩, rfl⟩
  refine c_block ?_
  refine c_loop (σ := Nat) (fun i => [(10, .int .i64 (i : Int)), (0, .pointer (some ⟨bx, 0, none⟩)), (1, .int .i64 fr), (2, .int .i64 to), (3, .int .i64 lim)]) (fun i w' => w' = w ∧ i ≤ n ∧ (∀ j, j < i → ∀ r, rs[j]? = some r → r.time < fr)) (fun i => n - i) 0 ⟨rfl, rfl, rfl, rfl, rfl, trivial⟩ ⟨rfl, Nat.zero_le _, fun j hj => by omega⟩ ?_
  rintro i wi ⟨rfl, hi, hlow⟩
  refine c_seq (fun K11 hK11 => ?_)
  rcases Decidable.em (i < n) with hin | hin
  rotate_left
  have htags : True := trivial
  rotate_left
  obtain ⟨r, hr⟩ : ∃ r, rs[i]? = some r := ⟨_, List.getElem?_eq_getElem (by omega)⟩
  obtain ⟨b1, o1, rfl⟩ := hR1.some_ (by omega)
  have hatr := rows_elem hR1 hr
  rcases Decidable.em (r.time < fr) with ht | ht
  rotate_left
  rotate_left
  · refine c_seqreg (fun K12 hK12 => ?_)
    refine s_val rfl rfl (runs_move rfl) ?_
    refine s_val rfl rfl (runs_move rfl) ?_
    refine s_val rfl rfl (runs_nilCheck rfl) ?_
    refine s_val rfl rfl (runs_fieldAddr Tryd.underlying53 rfl ty22 (by decide) rfl) ?_
    refine s_val rfl rfl (runs_load1 ty22 rfl (hbx.cell (o := 0) rfl)) ?_
    refine s_val rfl rfl (runs_len_slice Tryd.underlying22 rfl) ?_
    refine s_val rfl rfl (runs_df (runs_lt rfl rfl) (by omega)) ?_
    refine s_val rfl rfl (runs_move rfl) ?_
    refine s_skip rfl rfl ?_
    refine s_skip rfl rfl ?_
    refine s_skip rfl rfl ?_
    refine s_skip rfl rfl ?_
    refine s_skip rfl rfl ?_
    refine s_skip rfl rfl ?_
    refine s_skip rfl rfl ?_
    refine s_skip rfl rfl ?_
    refine s_skip rfl rfl ?_
    refine s_skip rfl rfl ?_
    refine s_val rfl rfl (runs_pickf rfl rfl) ?_
    refine s_nil ?_
    refine hK12 _ _ ?_
    refine c_false rfl ?_
    refine c_exit ?_
    exact hJ3 i _ ⟨rfl, hi, hlow, fun r hr => by have := (List.getElem?_eq_some_iff.1 hr).1; omega⟩ _ ⟨rfl, rfl, rfl, rfl, trivial⟩
  · refine c_seqreg (fun K12 hK12 => ?_)
    refine s_val rfl rfl (runs_move rfl) ?_
    refine s_val rfl rfl (runs_move rfl) ?_
    refine s_val rfl rfl (runs_nilCheck rfl) ?_
    refine s_val rfl rfl (runs_fieldAddr Tryd.underlying53 rfl ty22 (by decide) rfl) ?_
    refine s_val rfl rfl (runs_load1 ty22 rfl (hbx.cell (o := 0) rfl)) ?_
    refine s_val rfl rfl (runs_len_slice Tryd.underlying22 rfl) ?_
    refine s_val rfl rfl (runs_dt (runs_lt rfl rfl) (by omega)) ?_
    refine s_val rfl rfl (runs_move rfl) ?_
    refine s_val rfl rfl (runs_move rfl) ?_
    refine s_val rfl rfl (runs_nilCheck rfl) ?_
    refine s_val rfl rfl (runs_fieldAddr Tryd.underlying53 rfl ty22 (by decide) rfl) ?_
    refine s_val rfl rfl (runs_load1 ty22 rfl (hbx.cell (o := 0) rfl)) ?_
    refine s_val rfl rfl (runs_move rfl) ?_
    refine s_val rfl rfl (runs_index_slice (i) Tryd.underlying22 ty34 rfl rfl (by omega) (by omega)) ?_
    refine s_val rfl rfl (runs_fieldAddr Tryd.underlying34 rfl ty3 (by decide) rfl) ?_
    refine s_val rfl rfl (runs_load1 ty3 rfl (hatr 2 _ rfl)) ?_
    refine s_val rfl rfl (runs_move rfl) ?_
    refine s_val rfl rfl (runs_dt (runs_lt rfl rfl) ht) ?_
    refine s_val rfl rfl (runs_pickt rfl rfl) ?_
    refine s_nil ?_
    refine hK12 _ _ ?_
    refine c_true rfl ?_
    refine c_skip ?_
    refine hK11 _ _ ?_
    refine c_block ?_
    refine c_reg ?_
    refine s_val rfl rfl (runs_move rfl) ?_
    refine s_val rfl rfl (runs_add64 rfl rfl (by omega)) ?_
    refine s_val rfl rfl (runs_assign rfl) ?_
    refine s_nil ?_
    dsimp only [Post.setN]
    exact ⟨i + 1, ⟨rfl, rfl, rfl, rfl, rfl, trivial⟩, ⟨rfl, by omega, fun j hj r' hr' => by
      by_cases h : j = i
      · subst h; rw [hr] at hr'; cases hr'; exact ht
      · exact hlow j (by omega) r' hr'⟩, by omega⟩
  · refine c_seqreg (fun K12 hK12 => ?_)
    refine s_val rfl rfl (runs_move rfl) ?_
    refine s_val rfl rfl (runs_move rfl) ?_
    refine s_val rfl rfl (runs_nilCheck rfl) ?_
    refine s_val rfl rfl (runs_fieldAddr Tryd.underlying53 rfl ty22 (by decide) rfl) ?_
    refine s_val rfl rfl (runs_load1 ty22 rfl (hbx.cell (o := 0) rfl)) ?_
    refine s_val rfl rfl (runs_len_slice Tryd.underlying22 rfl) ?_
    refine s_val rfl rfl (runs_dt (runs_lt rfl rfl) (by omega)) ?_
    refine s_val rfl rfl (runs_move rfl) ?_
    refine s_val rfl rfl (runs_move rfl) ?_
    refine s_val rfl rfl (runs_nilCheck rfl) ?_
    refine s_val rfl rfl (runs_fieldAddr Tryd.underlying53 rfl ty22 (by decide) rfl) ?_
    refine s_val rfl rfl (runs_load1 ty22 rfl (hbx.cell (o := 0) rfl)) ?_
    refine s_val rfl rfl (runs_move rfl) ?_
    refine s_val rfl rfl (runs_index_slice (i) Tryd.underlying22 ty34 rfl rfl (by omega) (by omega)) ?_
    refine s_val rfl rfl (runs_fieldAddr Tryd.underlying34 rfl ty3 (by decide) rfl) ?_
    refine s_val rfl rfl (runs_load1 ty3 rfl (hatr 2 _ rfl)) ?_
    refine s_val rfl rfl (runs_move rfl) ?_
    refine s_val rfl rfl (runs_df (runs_lt rfl rfl) ht) ?_
    refine s_val rfl rfl (runs_pickt rfl rfl) ?_
    refine s_nil ?_
    refine hK12 _ _ ?_
    refine c_false rfl ?_
    refine c_exit ?_
    exact hJ3 i _ ⟨rfl, hi, hlow, fun r' hr' => by rw [hr] at hr'; cases hr'; exact ht⟩ _ ⟨rfl, rfl, rfl, rfl, trivial⟩

/-- A new list. -/
theorem ls_new {w : World} {lo bx : Nat} (hb : Blk w bx [.slice none 0 0, .slice none 0 0] 53) (hlo : lo ≤ bx) : LsV w lo w.heap.size bx (.slice none 0 0) (.slice none 0 0) [] :=
  ⟨hb, hlo, hb.lt, World.ownsRow_nil _ _ _ _, World.ownsRow_nil _ _ _ _, fun k hk => by simp [Value.ownBlock] at hk, fun k hk => by simp [Value.ownBlock] at hk, fun r hr => by simp at hr, Nat.le_refl _⟩
theorem lsPath_calls {B : Nat} {w : World} {lo hi bx : Nat} {v1 v2 : Value} {rs : List Rw} (hL : LsV w lo hi bx v1 v2 rs) (hG : GH B w) (hB : B ≤ w.heap.size) (i : Nat) (hi' : i < rs.length) (hn : rs.length ≤ 1000) :
    CallsR Tryd.prog 22 #[.pointer (some ⟨bx, 0, none⟩), .int .i64 (i : Int)] w fun v w' => w'.ownsRow w.heap.size 43 32 v (Sp.path (rs.map Sp.rleaf) i).length (natsC .u8 (Sp.path (rs.map Sp.rleaf) i).flatten) ∧ Chg w w' [] := by
  have hsok : ∀ x ∈ rs.map Sp.rleaf, HOk x := fun x hx => by obtain ⟨r, _, rfl⟩ := List.mem_map.1 hx; exact rleaf_ok r
  obtain ⟨a2, c2, rfl, hH, _⟩ := own_hs hL.own2 hsok (by simp)
  have hbx := hL.blk
  refine f_enter (l := [.pointer (some ⟨bx, 0, none⟩), .int .i64 (i : Int)]) Tryd.func22 rfl rfl rfl rfl ?_
  intro Qf hnrm hret
  refine c_seqreg (fun K1 hK1 => ?_)
  refine s_val rfl rfl (runs_assign rfl) ?_
  refine s_nil ?_
  refine hK1 _ _ ?_
  refine c_seqreg (fun K2 hK2 => ?_)
  refine s_val rfl rfl (runs_move rfl) ?_
  refine s_val rfl rfl (runs_move rfl) ?_
  refine s_val rfl rfl (runs_nilCheck rfl) ?_
  refine s_val rfl rfl (runs_fieldAddr Tryd.underlying53 rfl ty51 (by decide) rfl) ?_
  refine s_val rfl rfl (runs_load1 ty51 rfl (hbx.cell (o := 1) rfl)) ?_
  refine s_callf (xs := [.const (.pointer none), .tmp 8, .tmp 12]) rfl rfl Tryd.func30 rfl (by kernel_rfl) rfl (path_calls _ _ (Nat.le_refl _) B i _ _ _ _ hG hB hH (by omega) hi') ?_
  rintro _ w1 ⟨vp, rfl, hovp, X1_5⟩
  have zs1_5 := X1_5.size
  refine s_val rfl rfl (runs_move rfl) ?_
  refine s_val rfl rfl (runs_extract rfl rfl) ?_
  refine s_val rfl rfl (runs_extract rfl rfl) ?_
  refine s_val rfl rfl (runs_assign rfl) ?_
  refine s_val rfl rfl (runs_assign rfl) ?_
  refine s_nil ?_
  refine hK2 _ _ ?_
  refine c_seqreg (fun K4 hK4 => ?_)
  refine s_val rfl rfl (runs_move rfl) ?_
  refine s_val rfl rfl (runs_assign rfl) ?_
  refine s_nil ?_
  refine hK4 _ _ ?_
  refine c_ret ?_
  refine hret _ _ ?_
  exact ends1 (reads_tmp rfl) ⟨hovp, X1_5⟩
set_option maxHeartbeats 1000000 in
theorem lsCopy_calls {B : Nat} {w : World} {lo hi bx : Nat} {v1 v2 : Value} {rs : List Rw} (hL : LsV w lo hi bx v1 v2 rs) (hG : GH B w) (hn : rs.length ≤ 1000) :
    CallsR Tryd.prog 16 #[.pointer (some ⟨bx, 0, none⟩)] w fun v w' => ∃ by_ u1 u2, v = .pointer (some ⟨by_, 0, none⟩) ∧ LsV w' w.heap.size w'.heap.size by_ u1 u2 rs ∧ Chg w w' [] ∧ GH B w' := by
  have hsok : ∀ x ∈ rs.map Sp.rleaf, HOk x := fun x hx => by obtain ⟨r, _, rfl⟩ := List.mem_map.1 hx; exact rleaf_ok r
  obtain ⟨a1, c1, rfl, hR1, _⟩ := own_reads hL.own1
  obtain ⟨a2, c2, rfl, hR2, _⟩ := own_reads hL.own2
  have hbx := hL.blk
  have hX : Chg w w [] := Chg.refl _ _
  have hok := hL.ok
  refine f_enter (l := [.pointer (some ⟨bx, 0, none⟩)]) Tryd.func16 rfl rfl rfl rfl ?_
  intro Qf hnrm hret
  refine c_seqreg (fun K1 hK1 => ?_)
  refine s_val rfl rfl (runs_assign rfl) ?_
  refine s_nil ?_
  refine hK1 _ _ ?_
  refine c_seqdraw [] ([]) (by kernel_rfl) ?_
  intro K2 hK2 wd1 Xd1 hS1
  have zd1 := Xd1.size
  replace hR1 := hR1.grow Xd1
  replace hR2 := hR2.grow Xd1
  replace hbx := hbx.keep Xd1 (by simp)
  replace hX := hX.trans Xd1
  replace hG := hG.keep Xd1 (by simp)
  refine d_take 0 3 rfl (by kernel_rfl) rfl hS1 (fun wS hS => runs_move rfl) ?_
  refine d_take 1 4 rfl (by kernel_rfl) rfl hS1 (fun wS hS => runs_nilCheck rfl) ?_
  refine d_take 2 5 rfl (by kernel_rfl) rfl hS1 (fun wS hS => runs_fieldAddr Tryd.underlying53 rfl ty22 (by decide) rfl) ?_
  refine d_take 3 6 rfl (by kernel_rfl) rfl hS1 (fun wS hS => runs_load1 ty22 rfl ((hbx.keep hS (by simp)).cell (o := 0) rfl)) ?_
  refine d_take 5 8 rfl (by kernel_rfl) rfl hS1 (fun wS hS => runs_move rfl) ?_
  refine d_take 6 9 rfl (by kernel_rfl) rfl hS1 (fun wS hS => runs_nilCheck rfl) ?_
  refine d_take 7 10 rfl (by kernel_rfl) rfl hS1 (fun wS hS => runs_fieldAddr Tryd.underlying53 rfl ty51 (by decide) rfl) ?_
  refine d_take 8 11 rfl (by kernel_rfl) rfl hS1 (fun wS hS => runs_load1 ty51 rfl ((hbx.keep hS (by simp)).cell (o := 1) rfl)) ?_
  refine d_only 4 rfl (by kernel_rfl) ?_
  refine s_append Tryd.underlying22 ty34 rfl (by decide) rfl rfl rfl (World.ownsRow_nil _ w.heap.size _ _) rfl (hR1.grow hS1) (fun u hu => by obtain ⟨r, _, hu⟩ := List.mem_flatMap.1 hu; exact Rw.one r u hu) (by simp only [maxLen]; omega) (by omega) (by have := hX.size; have := hS1.size; omega) ?_
  intro u1 w4 H1_4 X1_4 F1_4
  replace X1_4 : Chg _ _ [] := X1_4
  obtain ⟨x1, y1, rfl, _, _⟩ := own_reads H1_4
  replace hS1 : Chg wd1 _ [] := hS1.trans X1_4
  refine s_nil ⟨.inr hS1, ?_⟩
  refine d_only 9 rfl (by kernel_rfl) ?_
  refine s_append Tryd.underlying51 ty43 rfl (by decide) rfl rfl rfl (World.ownsRow_nil _ w.heap.size _ _) rfl (hR2.grow hS1) (natsC_one _ _) (by simp only [maxLen]; omega) (by omega) (by have := hX.size; have := hS1.size; omega) ?_
  intro u2 w9 H1_9 X1_9 F1_9
  replace X1_9 : Chg _ _ [] := X1_9
  replace H1_4 := own_keep H1_4 X1_9 (by simp)
  obtain ⟨x2, y2, rfl, _, _⟩ := own_reads H1_9
  replace hS1 : Chg wd1 _ [] := hS1.trans X1_9
  refine s_nil ⟨.inr hS1, ?_⟩
  refine d_take 10 13 rfl (by kernel_rfl) rfl hS1 (fun wS hS => runs_buildv (v := .agg #[.slice x1 (0 + rs.length) y1, .slice x2 (0 + rs.length) y2]) [(0, .slice x1 (0 + rs.length) y1), (1, .slice x2 (0 + rs.length) y2)] rfl (by kernel_rfl)) ?_
  refine d_only 11 rfl (by kernel_rfl) ?_
  refine s_box rfl rfl rfl ?_
  intro by_ w11 e1_11 z1_11 hby X1_11
  replace H1_4 := own_keep H1_4 X1_11 (by simp)
  replace H1_9 := own_keep H1_9 X1_11 (by simp)
  have hbylo : w.heap.size ≤ by_ := by have := hX.size; have := hS1.size; omega
  replace hS1 : Chg wd1 _ [] := hS1.trans X1_11
  refine s_nil ⟨.inr hS1, ?_⟩
  refine d_take 12 2 rfl (by kernel_rfl) rfl hS1 (fun wS hS => runs_assign rfl) ?_
  refine d_done (by kernel_rfl) ?_
  refine hK2 _ _ ?_
  refine c_ret ?_
  refine hret _ _ ?_
  have hzz := hS1.size
  have hlt := hby.lt
  have hXF := hX.trans hS1
  have hzf := hXF.size
  exact ends1 (reads_tmp rfl) ⟨by_, _, _, rfl, ⟨hby, by omega, hlt, by simpa using H1_4, by simpa using H1_9, fun k hk => (H1_4.lt k hk).2, fun k hk => (H1_9.lt k hk).2, hok, Nat.le_refl _⟩, hXF, hG.keep hS1 (by simp)⟩
end Go.Proofs.YtlkeofjgmegcfaaDoor
