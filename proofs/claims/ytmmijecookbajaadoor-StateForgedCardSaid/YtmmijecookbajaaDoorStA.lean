/- Part StA of the proofs on this seat. Conditions: none beyond those in the theorems. By an AI agent. -/
import Derived.Test.YtmmijecookbajaaDoorAcc0
import Derived.Test.YtmmijecookbajaaDoorClash
namespace Go.Proofs.YtmmijecookbajaaDoor
open Go Go.RowKit

/-- A bit of a number, the highest is 0. -/
def Sp.bit (x : Nm) (k : Nat) : Nat := if k < 64 then x.1 / 2 ^ (63 - k) % 2 else if k < 128 then x.2 / 2 ^ (127 - k) % 2 else 0
theorem bit_lt (x : Nm) (k : Nat) : Sp.bit x k < 2 := by unfold Sp.bit; split; omega; split <;> omega
theorem runs_and1 {P : Program} {ρ : Env} {w : World} {x : Operand} {tx ty tyy : TypeId} {a : Nat} (hx : ev? ρ x = some (.int .u64 (a : Int))) (ha : a < 18446744073709551616) :
    Runs P ρ (.binOp .and tx x (.const (.int .u64 1)) tyy) ty w (.int .u64 ((a % 2 : Nat) : Int)) w :=
  runs_as (runs_and hx rfl) (by
    show Value.int .u64 (IntKind.u64.wrap ((BitVec.ofInt 64 (a : Int) &&& BitVec.ofInt 64 1).toNat : Int)) = _
    have e1 : (BitVec.ofInt 64 (a : Int)).toNat = a := by rw [BitVec.toNat_ofInt]; omega
    have e2 : (BitVec.ofInt 64 (1 : Int)).toNat = 1 := by decide
    rw [BitVec.toNat_and, e1, e2, Nat.and_one_is_mod, wrap_u64 (by omega) (by omega)])
theorem bit_calls (x : Nm) (k : Nat) (w : World) (hx : NOk x) (hk : k ≤ 1000) : CallsR Tryd.prog 13 #[nv x, .int .i64 (k : Int)] w fun v w' => v = .int .i64 (Sp.bit x k : Int) ∧ Chg w w' [] := by
  have hX : Chg w w [] := Chg.refl _ _
  refine f_enter (l := [nv x, .int .i64 (k : Int)]) Tryd.func13 rfl rfl rfl rfl ?_
  intro Qf hnrm hret
  refine c_seqreg (fun K1 hK1 => ?_)
  refine s_box rfl rfl rfl ?_
  intro b2 w0 e0_0 z0_0 hb2 X0_0
  have s0_0_hX := hX.size
  replace hX : Chg w _ [] := (hX.trans X0_0).mono (by intro k hk hlt; simp at hk ⊢ <;> first | omega | grind)
  replace hb2 : Blk w0 b2 (numC x) 24 := hb2
  refine s_val rfl rfl (runs_assign rfl) ?_
  refine s_nil ?_
  refine hK1 _ _ ?_
  refine c_seq (fun K3 hK3 => ?_)
  refine c_block ?_
  rcases (show k < 64 ∨ (¬ k < 64 ∧ k < 128) ∨ (¬ k < 64 ∧ ¬ k < 128) by omega) with h1 | ⟨h1, h2⟩ | ⟨h1, h2⟩
  · refine c_seqreg (fun K4 hK4 => ?_)
    refine s_val rfl rfl (runs_move rfl) ?_
    refine s_val rfl rfl (runs_df (runs_lt rfl rfl) (by omega)) ?_
    refine s_val rfl rfl (runs_move rfl) ?_
    refine s_val rfl rfl (runs_move rfl) ?_
    refine s_val rfl rfl (runs_df (runs_ge rfl rfl) (by omega)) ?_
    refine s_val rfl rfl (runs_pickf rfl rfl) ?_
    refine s_val rfl rfl (runs_assign rfl) ?_
    refine s_nil ?_
    refine hK4 _ _ ?_
    refine c_false rfl ?_
    refine c_seqreg (fun K5 hK5 => ?_)
    refine s_val rfl rfl (runs_move rfl) ?_
    refine s_val rfl rfl (runs_dt (runs_lt rfl rfl) (by omega)) ?_
    refine s_val rfl rfl (runs_assign rfl) ?_
    refine s_nil ?_
    refine hK5 _ _ ?_
    refine c_true rfl ?_
    refine c_seqreg (fun K6 hK6 => ?_)
    refine s_val rfl rfl (runs_fieldAddr Tryd.underlying24 rfl ty22 (by decide) rfl) ?_
    refine s_val rfl rfl (runs_load1 ty22 rfl (hb2.cell (o := 0) rfl)) ?_
    refine s_val rfl rfl (runs_move rfl) ?_
    refine s_val rfl rfl (runs_as (v' := .int .i64 ((63 - k : Nat) : Int)) (runs_sub64 rfl rfl (by omega)) (congrArg (Value.int .i64) (by omega))) ?_
    refine s_val rfl rfl (runs_as (v' := .int .u64 ((x.1 / 2 ^ (63 - k) : Nat) : Int)) (runs_shr64 rfl rfl (by omega)) (by rw [Int.toNat_natCast])) ?_
    refine s_val rfl rfl (runs_and1 rfl (Nat.lt_of_le_of_lt (Nat.div_le_self _ _) hx.1)) ?_
    refine s_val rfl rfl (runs_as (v' := .int .i64 (Sp.bit x k : Int)) (runs_conv Tryd.underlying22 Tryd.underlying3 rfl) (by rw [wrap_i64 (by omega) (by omega)]; simp only [Sp.bit, if_pos h1])) ?_
    refine s_val rfl rfl (runs_assign rfl) ?_
    refine s_nil ?_
    refine hK6 _ _ ?_
    refine c_ret ?_
    refine hret _ _ ?_
    exact ends1 (reads_tmp rfl) ⟨rfl, hX⟩
  · refine c_seqreg (fun K4 hK4 => ?_)
    refine s_val rfl rfl (runs_move rfl) ?_
    refine s_val rfl rfl (runs_df (runs_lt rfl rfl) (by omega)) ?_
    refine s_val rfl rfl (runs_move rfl) ?_
    refine s_val rfl rfl (runs_move rfl) ?_
    refine s_val rfl rfl (runs_df (runs_ge rfl rfl) (by omega)) ?_
    refine s_val rfl rfl (runs_pickf rfl rfl) ?_
    refine s_val rfl rfl (runs_assign rfl) ?_
    refine s_nil ?_
    refine hK4 _ _ ?_
    refine c_false rfl ?_
    refine c_seqreg (fun K7 hK7 => ?_)
    refine s_val rfl rfl (runs_move rfl) ?_
    refine s_val rfl rfl (runs_df (runs_lt rfl rfl) (by omega)) ?_
    refine s_val rfl rfl (runs_assign rfl) ?_
    refine s_nil ?_
    refine hK7 _ _ ?_
    refine c_false rfl ?_
    refine c_skip ?_
    refine hK3 _ _ ?_
    refine c_seqreg (fun K8 hK8 => ?_)
    refine s_val rfl rfl (runs_fieldAddr Tryd.underlying24 rfl ty22 (by decide) rfl) ?_
    refine s_val rfl rfl (runs_load1 ty22 rfl (hb2.cell (o := 1) rfl)) ?_
    refine s_val rfl rfl (runs_move rfl) ?_
    refine s_val rfl rfl (runs_as (v' := .int .i64 ((127 - k : Nat) : Int)) (runs_sub64 rfl rfl (by omega)) (congrArg (Value.int .i64) (by omega))) ?_
    refine s_val rfl rfl (runs_as (v' := .int .u64 ((x.2 / 2 ^ (127 - k) : Nat) : Int)) (runs_shr64 rfl rfl (by omega)) (by rw [Int.toNat_natCast])) ?_
    refine s_val rfl rfl (runs_and1 rfl (Nat.lt_of_le_of_lt (Nat.div_le_self _ _) hx.2)) ?_
    refine s_val rfl rfl (runs_as (v' := .int .i64 (Sp.bit x k : Int)) (runs_conv Tryd.underlying22 Tryd.underlying3 rfl) (by rw [wrap_i64 (by omega) (by omega)]; simp only [Sp.bit, if_neg h1, if_pos h2])) ?_
    refine s_val rfl rfl (runs_assign rfl) ?_
    refine s_nil ?_
    refine hK8 _ _ ?_
    refine c_ret ?_
    refine hret _ _ ?_
    exact ends1 (reads_tmp rfl) ⟨rfl, hX⟩
  · refine c_seqreg (fun K4 hK4 => ?_)
    refine s_val rfl rfl (runs_move rfl) ?_
    refine s_val rfl rfl (runs_df (runs_lt rfl rfl) (by omega)) ?_
    refine s_val rfl rfl (runs_move rfl) ?_
    refine s_val rfl rfl (runs_move rfl) ?_
    refine s_val rfl rfl (runs_dt (runs_ge rfl rfl) (by omega)) ?_
    refine s_val rfl rfl (runs_pickf rfl rfl) ?_
    refine s_val rfl rfl (runs_assign rfl) ?_
    refine s_nil ?_
    refine hK4 _ _ ?_
    refine c_true rfl ?_
    refine c_seqreg (fun K9 hK9 => ?_)
    refine s_val rfl rfl (runs_assign rfl) ?_
    refine s_nil ?_
    refine hK9 _ _ ?_
    refine c_ret ?_
    refine hret _ _ ?_
    exact ends1 (reads_tmp rfl) ⟨by simp only [Sp.bit, if_neg h1, if_neg h2]; rfl, hX⟩
/-- As a natural number. -/
def Sp.nat (x : Nm) : Nat := x.1 * 18446744073709551616 + x.2
def Sp.cmp (x y : Nm) : Int := if Sp.nat x < Sp.nat y then -1 else if x = y then 0 else 1
theorem cmp_calls (x y : Nm) (w : World) (hx : NOk x) (hy : NOk y) : CallsR Tryd.prog 28 #[nv x, nv y] w fun v w' => v = .int .i64 (Sp.cmp x y) ∧ Chg w w' [] := by
  have hX : Chg w w [] := Chg.refl _ _
  refine f_enter (l := [nv x, nv y]) Tryd.func28 rfl rfl rfl rfl ?_
  intro Qf hnrm hret
  refine c_seqreg (fun K1 hK1 => ?_)
  refine s_box rfl rfl rfl ?_
  intro b2 w0 e0_0 z0_0 hb2 X0_0
  have s0_0_hX := hX.size
  replace hX : Chg w _ [] := (hX.trans X0_0).mono (by intro k hk hlt; simp at hk ⊢ <;> first | omega | grind)
  replace hb2 : Blk w0 b2 (numC x) 24 := hb2
  refine s_box rfl rfl rfl ?_
  intro b3 w1 e0_1 z0_1 hb3 X0_1
  have s0_1_hX := hX.size
  have s0_1_hb2 := hb2.lt
  replace hX : Chg w _ [] := (hX.trans X0_1).mono (by intro k hk hlt; simp at hk ⊢ <;> first | omega | grind)
  replace hb2 := hb2.keep X0_1 (by simp)
  replace hb3 : Blk w1 b3 (numC y) 24 := hb3
  refine s_val rfl rfl (runs_assign rfl) ?_
  refine s_nil ?_
  refine hK1 _ _ ?_
  refine c_seq (fun K4 hK4 => ?_)
  refine c_block ?_
  obtain ⟨hx1, hx2⟩ := hx
  obtain ⟨hy1, hy2⟩ := hy
  rcases (show x.1 < y.1 ∨ (¬ x.1 < y.1 ∧ x.1 = y.1 ∧ x.2 < y.2) ∨ (¬ x.1 < y.1 ∧ x.1 = y.1 ∧ ¬ x.2 < y.2) ∨ (¬ x.1 < y.1 ∧ x.1 ≠ y.1) by omega) with h1 | ⟨h1, h2, h3⟩ | ⟨h1, h2, h3⟩ | ⟨h1, h2⟩
  · refine c_seqreg (fun K5 hK5 => ?_)
    refine s_val rfl rfl (runs_fieldAddr Tryd.underlying24 rfl ty22 (by decide) rfl) ?_
    refine s_val rfl rfl (runs_load1 ty22 rfl (hb2.cell (o := 0) rfl)) ?_
    refine s_val rfl rfl (runs_fieldAddr Tryd.underlying24 rfl ty22 (by decide) rfl) ?_
    refine s_val rfl rfl (runs_load1 ty22 rfl (hb3.cell (o := 0) rfl)) ?_
    refine s_val rfl rfl (runs_dt (runs_lt rfl rfl) (by omega)) ?_
    refine s_val rfl rfl (runs_move rfl) ?_
    refine s_skip rfl rfl ?_
    refine s_skip rfl rfl ?_
    refine s_skip rfl rfl ?_
    refine s_skip rfl rfl ?_
    refine s_skip rfl rfl ?_
    refine s_skip rfl rfl ?_
    refine s_skip rfl rfl ?_
    refine s_skip rfl rfl ?_
    refine s_skip rfl rfl ?_
    refine s_skip rfl rfl ?_
    refine s_skip rfl rfl ?_
    refine s_skip rfl rfl ?_
    refine s_val rfl rfl (runs_pickt rfl rfl) ?_
    refine s_val rfl rfl (runs_assign rfl) ?_
    refine s_nil ?_
    refine hK5 _ _ ?_
    refine c_true rfl ?_
    refine c_seqreg (fun K6 hK6 => ?_)
    refine s_val rfl rfl (runs_assign rfl) ?_
    refine s_nil ?_
    refine hK6 _ _ ?_
    refine c_ret ?_
    refine hret _ _ ?_
    exact ends1 (reads_tmp rfl) ⟨by rw [Sp.cmp, if_pos (by unfold Sp.nat; omega)], hX⟩
  · refine c_seqreg (fun K5 hK5 => ?_)
    refine s_val rfl rfl (runs_fieldAddr Tryd.underlying24 rfl ty22 (by decide) rfl) ?_
    refine s_val rfl rfl (runs_load1 ty22 rfl (hb2.cell (o := 0) rfl)) ?_
    refine s_val rfl rfl (runs_fieldAddr Tryd.underlying24 rfl ty22 (by decide) rfl) ?_
    refine s_val rfl rfl (runs_load1 ty22 rfl (hb3.cell (o := 0) rfl)) ?_
    refine s_val rfl rfl (runs_df (runs_lt rfl rfl) (by omega)) ?_
    refine s_val rfl rfl (runs_move rfl) ?_
    refine s_val rfl rfl (runs_fieldAddr Tryd.underlying24 rfl ty22 (by decide) rfl) ?_
    refine s_val rfl rfl (runs_load1 ty22 rfl (hb2.cell (o := 0) rfl)) ?_
    refine s_val rfl rfl (runs_fieldAddr Tryd.underlying24 rfl ty22 (by decide) rfl) ?_
    refine s_val rfl rfl (runs_load1 ty22 rfl (hb3.cell (o := 0) rfl)) ?_
    refine s_val rfl rfl (runs_dt (runs_eqd rfl rfl) (by omega)) ?_
    refine s_val rfl rfl (runs_move rfl) ?_
    refine s_val rfl rfl (runs_fieldAddr Tryd.underlying24 rfl ty22 (by decide) rfl) ?_
    refine s_val rfl rfl (runs_load1 ty22 rfl (hb2.cell (o := 1) rfl)) ?_
    refine s_val rfl rfl (runs_fieldAddr Tryd.underlying24 rfl ty22 (by decide) rfl) ?_
    refine s_val rfl rfl (runs_load1 ty22 rfl (hb3.cell (o := 1) rfl)) ?_
    refine s_val rfl rfl (runs_dt (runs_lt rfl rfl) (by omega)) ?_
    refine s_val rfl rfl (runs_pickt rfl rfl) ?_
    refine s_val rfl rfl (runs_pickf rfl rfl) ?_
    refine s_val rfl rfl (runs_assign rfl) ?_
    refine s_nil ?_
    refine hK5 _ _ ?_
    refine c_true rfl ?_
    refine c_seqreg (fun K7 hK7 => ?_)
    refine s_val rfl rfl (runs_assign rfl) ?_
    refine s_nil ?_
    refine hK7 _ _ ?_
    refine c_ret ?_
    refine hret _ _ ?_
    exact ends1 (reads_tmp rfl) ⟨by rw [Sp.cmp, if_pos (by unfold Sp.nat; omega)], hX⟩
  · refine c_seqreg (fun K5 hK5 => ?_)
    refine s_val rfl rfl (runs_fieldAddr Tryd.underlying24 rfl ty22 (by decide) rfl) ?_
    refine s_val rfl rfl (runs_load1 ty22 rfl (hb2.cell (o := 0) rfl)) ?_
    refine s_val rfl rfl (runs_fieldAddr Tryd.underlying24 rfl ty22 (by decide) rfl) ?_
    refine s_val rfl rfl (runs_load1 ty22 rfl (hb3.cell (o := 0) rfl)) ?_
    refine s_val rfl rfl (runs_df (runs_lt rfl rfl) (by omega)) ?_
    refine s_val rfl rfl (runs_move rfl) ?_
    refine s_val rfl rfl (runs_fieldAddr Tryd.underlying24 rfl ty22 (by decide) rfl) ?_
    refine s_val rfl rfl (runs_load1 ty22 rfl (hb2.cell (o := 0) rfl)) ?_
    refine s_val rfl rfl (runs_fieldAddr Tryd.underlying24 rfl ty22 (by decide) rfl) ?_
    refine s_val rfl rfl (runs_load1 ty22 rfl (hb3.cell (o := 0) rfl)) ?_
    refine s_val rfl rfl (runs_dt (runs_eqd rfl rfl) (by omega)) ?_
    refine s_val rfl rfl (runs_move rfl) ?_
    refine s_val rfl rfl (runs_fieldAddr Tryd.underlying24 rfl ty22 (by decide) rfl) ?_
    refine s_val rfl rfl (runs_load1 ty22 rfl (hb2.cell (o := 1) rfl)) ?_
    refine s_val rfl rfl (runs_fieldAddr Tryd.underlying24 rfl ty22 (by decide) rfl) ?_
    refine s_val rfl rfl (runs_load1 ty22 rfl (hb3.cell (o := 1) rfl)) ?_
    refine s_val rfl rfl (runs_df (runs_lt rfl rfl) (by omega)) ?_
    refine s_val rfl rfl (runs_pickt rfl rfl) ?_
    refine s_val rfl rfl (runs_pickf rfl rfl) ?_
    refine s_val rfl rfl (runs_assign rfl) ?_
    refine s_nil ?_
    refine hK5 _ _ ?_
    refine c_false rfl ?_
    refine c_seqreg (fun K8 hK8 => ?_)
    refine s_val rfl rfl (runs_loadAgg ty24 rfl hb2.at (numC_len _)) ?_
    refine s_val rfl rfl (runs_loadAgg ty24 rfl hb3.at (numC_len _)) ?_
    refine s_val rfl rfl (runs_nm_eq rfl rfl) ?_
    refine s_val rfl rfl (runs_assign rfl) ?_
    refine s_nil ?_
    refine hK8 _ _ ?_
    refine c_dec rfl (fun hxy => ?_) (fun hxy => ?_)
    · refine c_seqreg (fun K9 hK9 => ?_)
      refine s_val rfl rfl (runs_assign rfl) ?_
      refine s_nil ?_
      refine hK9 _ _ ?_
      refine c_ret ?_
      refine hret _ _ ?_
      exact ends1 (reads_tmp rfl) ⟨by rw [Sp.cmp, if_neg (by rw [hxy]; omega), if_pos hxy], hX⟩
    · refine c_skip ?_
      refine hK4 _ _ ?_
      refine c_seqreg (fun K10 hK10 => ?_)
      refine s_val rfl rfl (runs_assign rfl) ?_
      refine s_nil ?_
      refine hK10 _ _ ?_
      refine c_ret ?_
      refine hret _ _ ?_
      exact ends1 (reads_tmp rfl) ⟨by rw [Sp.cmp, if_neg (by unfold Sp.nat; omega), if_neg hxy], hX⟩
  · refine c_seqreg (fun K5 hK5 => ?_)
    refine s_val rfl rfl (runs_fieldAddr Tryd.underlying24 rfl ty22 (by decide) rfl) ?_
    refine s_val rfl rfl (runs_load1 ty22 rfl (hb2.cell (o := 0) rfl)) ?_
    refine s_val rfl rfl (runs_fieldAddr Tryd.underlying24 rfl ty22 (by decide) rfl) ?_
    refine s_val rfl rfl (runs_load1 ty22 rfl (hb3.cell (o := 0) rfl)) ?_
    refine s_val rfl rfl (runs_df (runs_lt rfl rfl) (by omega)) ?_
    refine s_val rfl rfl (runs_move rfl) ?_
    refine s_val rfl rfl (runs_fieldAddr Tryd.underlying24 rfl ty22 (by decide) rfl) ?_
    refine s_val rfl rfl (runs_load1 ty22 rfl (hb2.cell (o := 0) rfl)) ?_
    refine s_val rfl rfl (runs_fieldAddr Tryd.underlying24 rfl ty22 (by decide) rfl) ?_
    refine s_val rfl rfl (runs_load1 ty22 rfl (hb3.cell (o := 0) rfl)) ?_
    refine s_val rfl rfl (runs_df (runs_eqd rfl rfl) (by omega)) ?_
    refine s_val rfl rfl (runs_move rfl) ?_
    refine s_skip rfl rfl ?_
    refine s_skip rfl rfl ?_
    refine s_skip rfl rfl ?_
    refine s_skip rfl rfl ?_
    refine s_skip rfl rfl ?_
    refine s_val rfl rfl (runs_pickf rfl rfl) ?_
    refine s_val rfl rfl (runs_pickf rfl rfl) ?_
    refine s_val rfl rfl (runs_assign rfl) ?_
    refine s_nil ?_
    refine hK5 _ _ ?_
    refine c_false rfl ?_
    refine c_seqreg (fun K11 hK11 => ?_)
    refine s_val rfl rfl (runs_loadAgg ty24 rfl hb2.at (numC_len _)) ?_
    refine s_val rfl rfl (runs_loadAgg ty24 rfl hb3.at (numC_len _)) ?_
    refine s_val rfl rfl (runs_nm_eq rfl rfl) ?_
    refine s_val rfl rfl (runs_assign rfl) ?_
    refine s_nil ?_
    refine hK11 _ _ ?_
    refine c_dec rfl (fun hxy => ?_) (fun hxy => ?_)
    · refine c_seqreg (fun K12 hK12 => ?_)
      refine s_val rfl rfl (runs_assign rfl) ?_
      refine s_nil ?_
      refine hK12 _ _ ?_
      refine c_ret ?_
      refine hret _ _ ?_
      exact ends1 (reads_tmp rfl) ⟨by rw [Sp.cmp, if_neg (by rw [hxy]; omega), if_pos hxy], hX⟩
    · refine c_skip ?_
      refine hK4 _ _ ?_
      refine c_seqreg (fun K13 hK13 => ?_)
      refine s_val rfl rfl (runs_assign rfl) ?_
      refine s_nil ?_
      refine hK13 _ _ ?_
      refine c_ret ?_
      refine hret _ _ ?_
      exact ends1 (reads_tmp rfl) ⟨by rw [Sp.cmp, if_neg (by unfold Sp.nat; omega), if_neg hxy], hX⟩
theorem acs_len {l : List Ac} (h : ∀ r ∈ l, r.Num) : (l.flatMap Ac.C).length = l.length * 46 := by
  induction l with
  | nil => rfl
  | cons x l ih => simp only [List.flatMap_cons, List.length_append, ih (fun r hr => h r (by simp [hr])), Ac.len (h x (by simp)), List.length_cons]; omega
theorem acs_take {l : List Ac} (h : ∀ r ∈ l, r.Num) (k : Nat) : (l.flatMap Ac.C).take (k * 46) = (l.take k).flatMap Ac.C := by
  induction l generalizing k with
  | nil => simp
  | cons x l ih =>
    have hx := Ac.len (h x (by simp))
    cases k with
    | zero => simp
    | succ k =>
      have ih := ih (fun y hy => h y (by simp [hy])) k
      simp only [List.flatMap_cons, List.take_succ_cons]
      rw [List.take_append, List.take_of_length_le (by omega), show (k + 1) * 46 - x.C.length = k * 46 by omega, ih]
theorem acs_drop {l : List Ac} (h : ∀ r ∈ l, r.Num) (k : Nat) : (l.flatMap Ac.C).drop (k * 46) = (l.drop k).flatMap Ac.C := by
  induction l generalizing k with
  | nil => simp
  | cons x l ih =>
    have hx := Ac.len (h x (by simp))
    cases k with
    | zero => simp
    | succ k =>
      have ih := ih (fun y hy => h y (by simp [hy])) k
      simp only [List.flatMap_cons, List.drop_succ_cons]
      rw [List.drop_append, List.drop_eq_nil_of_le (by omega), List.nil_append, show (k + 1) * 46 - x.C.length = k * 46 by omega, ih]
/-- A slice of accounts. -/
structure AcR (w : World) (a : Option Addr) (n c : Nat) (l : List Ac) : Prop where
  rd : SlR w 46 a n c (l.flatMap Ac.C)
  len : l.length = n
  ok : ∀ r ∈ l, r.Num
theorem AcR.keep {w w' : World} {a : Option Addr} {n c : Nat} {l : List Ac} {M : List Nat} (h : AcR w a n c l) (x : Chg w w' M) (hn : ∀ p, a = some p → p.block ∉ M) : AcR w' a n c l := ⟨h.rd.keep x hn, h.len, h.ok⟩
theorem AcR.keep0 {w w' : World} {a : Option Addr} {n c : Nat} {l : List Ac} (h : AcR w a n c l) (x : Chg w w' []) : AcR w' a n c l := h.keep x (by simp)
theorem AcR.to_ {w : World} {a : Option Addr} {n c : Nat} {l : List Ac} (h : AcR w a n c l) (k : Nat) (hk : k ≤ n) : AcR w a k c (l.take k) := by
  have := h.rd.to_ k hk
  rw [acs_take h.ok] at this
  exact ⟨this, by rw [List.length_take, h.len]; omega, fun x hx => h.ok x (List.mem_of_mem_take hx)⟩
theorem AcR.from_ {w : World} {a : Option Addr} {n c : Nat} {l : List Ac} (h : AcR w a n c l) (k : Nat) (hk : k ≤ n) : AcR w (cutA a c k 46) (n - k) (c - k) (l.drop k) := by
  have := h.rd.from_ k hk
  rw [acs_drop h.ok] at this
  exact ⟨this, by rw [List.length_drop, h.len], fun x hx => h.ok x (List.mem_of_mem_drop hx)⟩
theorem AcR.elem {w : World} {b o : Nat} {n c : Nat} {l : List Ac} (h : AcR w (some ⟨b, o, none⟩) n c l) {i : Nat} {x : Ac} (hx : l[i]? = some x) : At w b (o + i * 46) x.C := by
  have := h.rd.elem i
  have hi : i < l.length := (List.getElem?_eq_some_iff.1 hx).1
  have hxe : l[i] = x := by rw [List.getElem?_eq_getElem hi] at hx; exact Option.some.inj hx
  rw [acs_drop h.ok, List.drop_eq_getElem_cons hi, List.flatMap_cons, hxe, List.take_append, List.take_of_length_le (by rw [Ac.len (h.ok x (List.mem_of_getElem? hx))]; omega), show 46 - x.C.length = 0 by rw [Ac.len (h.ok x (List.mem_of_getElem? hx))], List.take_zero, List.append_nil] at this
  exact this
/-- How many come ahead of the first with that bit. -/
def Sp.lows (l : List Ac) (k : Nat) : Nat := (l.takeWhile fun r => Sp.bit r.id k = 0).length
theorem lows_le (l : List Ac) (k : Nat) : Sp.lows l k ≤ l.length := by
  induction l with
  | nil => simp [Sp.lows]
  | cons x l ih => simp only [Sp.lows, List.takeWhile_cons] at ih ⊢; split <;> simp <;> omega
theorem lows_is {l : List Ac} {k i : Nat} (hi : i ≤ l.length) (h1 : ∀ j, j < i → ∀ r, l[j]? = some r → Sp.bit r.id k = 0) (h2 : ∀ r, l[i]? = some r → Sp.bit r.id k ≠ 0) : Sp.lows l k = i := by
  induction l generalizing i with
  | nil => simp [Sp.lows]; simp at hi; omega
  | cons x l ih =>
    cases i with
    | zero => have := h2 x rfl; simp [Sp.lows, this]
    | succ i =>
      have h0 := h1 0 (by omega) x rfl
      have := ih (i := i) (by simpa using hi) (fun j hj r hr => h1 (j + 1) (by omega) r (by simpa using hr)) (fun r hr => h2 r (by simpa using hr))
      simp only [Sp.lows, List.takeWhile_cons, h0] at this ⊢
      simp [this]
set_option maxHeartbeats 1000000 in
theorem part0_calls (l : List Ac) (a : Option Addr) (n c k : Nat) (w : World) (hR : AcR w a n c l) (hk : k ≤ 1000) (hn : n ≤ 1000) :
    CallsR Tryd.prog 26 #[.slice a n c, .int .i64 0, .int .i64 (k : Int)] w fun v w' => v = .slice a (Sp.lows l k) c ∧ Chg w w' [] := by
  have hX : Chg w w [] := Chg.refl _ _
  have hlen := hR.len
  have hle := hR.rd.le
  refine f_enter (l := [.slice a n c, .int .i64 0, .int .i64 (k : Int)]) Tryd.func26 rfl rfl rfl rfl ?_
  intro Qf hnrm hret
  refine c_seqreg (fun K1 hK1 => ?_)
  refine s_val rfl rfl (runs_assign rfl) ?_
  refine s_nil ?_
  refine hK1 _ _ ?_
  refine c_seqreg (fun K2 hK2 => ?_)
  refine s_val rfl rfl (runs_assign rfl) ?_
  refine s_nil ?_
  refine hK2 _ _ ?_
  refine c_seq (fun K3 hK3 => ?_)
  refine c_block ?_
  refine c_loop (σ := Nat) (fun i => [(7, .int .i64 (i : Int)), (0, .slice a n c), (1, .int .i64 0), (2, .int .i64 (k : Int))]) (fun i W => i ≤ n ∧ (∀ j, j < i → ∀ r, l[j]? = some r → Sp.bit r.id k = 0) ∧ Chg w W []) (fun i => n - i) 0 ⟨rfl, rfl, rfl, rfl, trivial⟩ ⟨Nat.zero_le _, fun j hj => by omega, hX⟩ ?_
  rintro i wi ⟨hi, hlo, hX⟩
  refine c_seq (fun K4 hK4 => ?_)
  rcases Decidable.em (i < n) with hin | hin
  rotate_left
  have htags : True := trivial
  rotate_left
  obtain ⟨r, hr⟩ : ∃ r, l[i]? = some r := ⟨_, List.getElem?_eq_getElem (by omega)⟩
  have hR' := hR.keep0 hX
  have hro := hR.ok r (List.mem_of_getElem? hr)
  obtain ⟨b1, o1, rfl⟩ := hR'.rd.some_ (by omega)
  have hat := hR'.elem hr
  rcases Decidable.em (Sp.bit r.id k = 0) with hb | hb
  rotate_left
  rotate_left
  · refine c_seqreg (fun K5 hK5 => ?_)
    refine s_val rfl rfl (runs_move rfl) ?_
    refine s_val rfl rfl (runs_move rfl) ?_
    refine s_val rfl rfl (runs_len_slice Tryd.underlying38 rfl) ?_
    refine s_val rfl rfl (runs_df (runs_lt rfl rfl) (by omega)) ?_
    refine s_val rfl rfl (runs_move rfl) ?_
    refine s_skip rfl rfl ?_
    refine s_skip rfl rfl ?_
    refine s_skip rfl rfl ?_
    refine s_skip rfl rfl ?_
    refine s_skip rfl rfl ?_
    refine s_skip rfl rfl ?_
    refine s_skip rfl rfl ?_
    refine s_skip rfl rfl ?_
    refine s_val rfl rfl (runs_pickf rfl rfl) ?_
    refine s_nil ?_
    have hlow : Sp.lows l k = i := lows_is (by omega) hlo (fun r hr => by have := (List.getElem?_eq_some_iff.1 hr).1; omega)
    refine hK5 _ _ ?_
    refine c_false rfl ?_
    refine c_exit ?_
    refine hK3 _ _ ?_
    refine c_seq (fun K6 hK6 => ?_)
    refine c_seqreg (fun K7 hK7 => ?_)
    refine s_val rfl rfl (runs_move rfl) ?_
    refine s_val rfl rfl (runs_dt (runs_eqd rfl rfl) rfl) ?_
    refine s_nil ?_
    refine hK7 _ _ ?_
    refine c_true rfl ?_
    refine c_seqreg (fun K8 hK8 => ?_)
    refine s_val rfl rfl (runs_move rfl) ?_
    refine s_val rfl rfl (runs_move rfl) ?_
    refine s_val rfl rfl (runs_slice_to (i) Tryd.underlying38 ty28 rfl rfl (by omega) (by omega)) ?_
    refine s_val rfl rfl (runs_assign rfl) ?_
    refine s_nil ?_
    refine hK8 _ _ ?_
    refine c_ret ?_
    refine hret _ _ ?_
    rw [hlow]
    exact ends1 (reads_tmp rfl) ⟨rfl, hX⟩
  · refine c_seqreg (fun K5 hK5 => ?_)
    refine s_val rfl rfl (runs_move rfl) ?_
    refine s_val rfl rfl (runs_move rfl) ?_
    refine s_val rfl rfl (runs_len_slice Tryd.underlying38 rfl) ?_
    refine s_val rfl rfl (runs_dt (runs_lt rfl rfl) (by omega)) ?_
    refine s_val rfl rfl (runs_move rfl) ?_
    refine s_val rfl rfl (runs_move rfl) ?_
    refine s_val rfl rfl (runs_move rfl) ?_
    refine s_val rfl rfl (runs_index_slice (i) Tryd.underlying38 ty28 rfl rfl (by omega) (by omega)) ?_
    refine s_val rfl rfl (runs_fieldAddr Tryd.underlying28 rfl ty24 (by decide) rfl) ?_
    refine s_val rfl rfl (runs_loadAgg ty24 rfl (hat.sub 0 2) (by rfl)) ?_
    refine s_val rfl rfl (runs_move rfl) ?_
    refine s_callf (xs := [.tmp 17, .tmp 18]) rfl rfl Tryd.func13 rfl (by kernel_rfl) rfl (bit_calls r.id k _ hro.id hk) ?_
    rintro _ w2 ⟨rfl, X2_11⟩
    replace hX : Chg w _ [] := (hX.trans X2_11).mono (by intro k hk hlt; simp at hk ⊢ <;> first | omega | grind)
    have zs2_11 := X2_11.size
    refine s_val rfl rfl (runs_dt (runs_eqd rfl rfl) (by omega)) ?_
    refine s_val rfl rfl (runs_pickt rfl rfl) ?_
    refine s_nil ?_
    refine hK5 _ _ ?_
    refine c_true rfl ?_
    refine c_skip ?_
    refine hK4 _ _ ?_
    refine c_block ?_
    refine c_reg ?_
    refine s_val rfl rfl (runs_move rfl) ?_
    refine s_val rfl rfl (runs_add64 rfl rfl (by omega)) ?_
    refine s_val rfl rfl (runs_assign rfl) ?_
    refine s_nil ?_
    dsimp only [Post.setN]
    exact ⟨i + 1, ⟨rfl, rfl, rfl, rfl, trivial⟩, ⟨by omega, fun j hj q hq => by
      by_cases e : j = i
      · subst e; rw [hr] at hq; cases hq; exact hb
      · exact hlo j (by omega) q hq, hX⟩, by omega⟩
  · refine c_seqreg (fun K5 hK5 => ?_)
    refine s_val rfl rfl (runs_move rfl) ?_
    refine s_val rfl rfl (runs_move rfl) ?_
    refine s_val rfl rfl (runs_len_slice Tryd.underlying38 rfl) ?_
    refine s_val rfl rfl (runs_dt (runs_lt rfl rfl) (by omega)) ?_
    refine s_val rfl rfl (runs_move rfl) ?_
    refine s_val rfl rfl (runs_move rfl) ?_
    refine s_val rfl rfl (runs_move rfl) ?_
    refine s_val rfl rfl (runs_index_slice (i) Tryd.underlying38 ty28 rfl rfl (by omega) (by omega)) ?_
    refine s_val rfl rfl (runs_fieldAddr Tryd.underlying28 rfl ty24 (by decide) rfl) ?_
    refine s_val rfl rfl (runs_loadAgg ty24 rfl (hat.sub 0 2) (by rfl)) ?_
    refine s_val rfl rfl (runs_move rfl) ?_
    refine s_callf (xs := [.tmp 17, .tmp 18]) rfl rfl Tryd.func13 rfl (by kernel_rfl) rfl (bit_calls r.id k _ hro.id hk) ?_
    rintro _ w2 ⟨rfl, X2_11⟩
    replace hX : Chg w _ [] := (hX.trans X2_11).mono (by intro k hk hlt; simp at hk ⊢ <;> first | omega | grind)
    have zs2_11 := X2_11.size
    refine s_val rfl rfl (runs_df (runs_eqd rfl rfl) (by omega)) ?_
    refine s_val rfl rfl (runs_pickt rfl rfl) ?_
    refine s_nil ?_
    have hlow : Sp.lows l k = i := lows_is (by omega) hlo (fun q hq => by rw [hr] at hq; cases hq; exact hb)
    refine hK5 _ _ ?_
    refine c_false rfl ?_
    refine c_exit ?_
    refine hK3 _ _ ?_
    refine c_seq (fun K11 hK11 => ?_)
    refine c_seqreg (fun K12 hK12 => ?_)
    refine s_val rfl rfl (runs_move rfl) ?_
    refine s_val rfl rfl (runs_dt (runs_eqd rfl rfl) rfl) ?_
    refine s_nil ?_
    refine hK12 _ _ ?_
    refine c_true rfl ?_
    refine c_seqreg (fun K13 hK13 => ?_)
    refine s_val rfl rfl (runs_move rfl) ?_
    refine s_val rfl rfl (runs_move rfl) ?_
    refine s_val rfl rfl (runs_slice_to (i) Tryd.underlying38 ty28 rfl rfl (by omega) (by omega)) ?_
    refine s_val rfl rfl (runs_assign rfl) ?_
    refine s_nil ?_
    refine hK13 _ _ ?_
    refine c_ret ?_
    refine hret _ _ ?_
    rw [hlow]
    exact ends1 (reads_tmp rfl) ⟨rfl, hX⟩
set_option maxHeartbeats 1000000 in
theorem part1_calls (l : List Ac) (a : Option Addr) (n c k : Nat) (w : World) (hR : AcR w a n c l) (hk : k ≤ 1000) (hn : n ≤ 1000) :
    CallsR Tryd.prog 26 #[.slice a n c, .int .i64 1, .int .i64 (k : Int)] w fun v w' => v = .slice (cutA a c (Sp.lows l k) 46) (n - Sp.lows l k) (c - Sp.lows l k) ∧ Chg w w' [] := by
  have hX : Chg w w [] := Chg.refl _ _
  have hlen := hR.len
  have hle := hR.rd.le
  refine f_enter (l := [.slice a n c, .int .i64 1, .int .i64 (k : Int)]) Tryd.func26 rfl rfl rfl rfl ?_
  intro Qf hnrm hret
  refine c_seqreg (fun K1 hK1 => ?_)
  refine s_val rfl rfl (runs_assign rfl) ?_
  refine s_nil ?_
  refine hK1 _ _ ?_
  refine c_seqreg (fun K2 hK2 => ?_)
  refine s_val rfl rfl (runs_assign rfl) ?_
  refine s_nil ?_
  refine hK2 _ _ ?_
  refine c_seq (fun K3 hK3 => ?_)
  refine c_block ?_
  refine c_loop (σ := Nat) (fun i => [(7, .int .i64 (i : Int)), (0, .slice a n c), (1, .int .i64 1), (2, .int .i64 (k : Int))]) (fun i W => i ≤ n ∧ (∀ j, j < i → ∀ r, l[j]? = some r → Sp.bit r.id k = 0) ∧ Chg w W []) (fun i => n - i) 0 ⟨rfl, rfl, rfl, rfl, trivial⟩ ⟨Nat.zero_le _, fun j hj => by omega, hX⟩ ?_
  rintro i wi ⟨hi, hlo, hX⟩
  refine c_seq (fun K4 hK4 => ?_)
  rcases Decidable.em (i < n) with hin | hin
  rotate_left
  have htags : True := trivial
  rotate_left
  obtain ⟨r, hr⟩ : ∃ r, l[i]? = some r := ⟨_, List.getElem?_eq_getElem (by omega)⟩
  have hR' := hR.keep0 hX
  have hro := hR.ok r (List.mem_of_getElem? hr)
  obtain ⟨b1, o1, rfl⟩ := hR'.rd.some_ (by omega)
  have hat := hR'.elem hr
  rcases Decidable.em (Sp.bit r.id k = 0) with hb | hb
  rotate_left
  rotate_left
  · refine c_seqreg (fun K5 hK5 => ?_)
    refine s_val rfl rfl (runs_move rfl) ?_
    refine s_val rfl rfl (runs_move rfl) ?_
    refine s_val rfl rfl (runs_len_slice Tryd.underlying38 rfl) ?_
    refine s_val rfl rfl (runs_df (runs_lt rfl rfl) (by omega)) ?_
    refine s_val rfl rfl (runs_move rfl) ?_
    refine s_skip rfl rfl ?_
    refine s_skip rfl rfl ?_
    refine s_skip rfl rfl ?_
    refine s_skip rfl rfl ?_
    refine s_skip rfl rfl ?_
    refine s_skip rfl rfl ?_
    refine s_skip rfl rfl ?_
    refine s_skip rfl rfl ?_
    refine s_val rfl rfl (runs_pickf rfl rfl) ?_
    refine s_nil ?_
    have hlow : Sp.lows l k = i := lows_is (by omega) hlo (fun r hr => by have := (List.getElem?_eq_some_iff.1 hr).1; omega)
    refine hK5 _ _ ?_
    refine c_false rfl ?_
    refine c_exit ?_
    refine hK3 _ _ ?_
    refine c_seq (fun K6 hK6 => ?_)
    refine c_seqreg (fun K7 hK7 => ?_)
    refine s_val rfl rfl (runs_move rfl) ?_
    refine s_val rfl rfl (runs_df (runs_eqd rfl rfl) (by decide)) ?_
    refine s_nil ?_
    refine hK7 _ _ ?_
    refine c_false rfl ?_
    refine c_skip ?_
    refine hK6 _ _ ?_
    refine c_seqreg (fun K8 hK8 => ?_)
    refine s_val rfl rfl (runs_move rfl) ?_
    refine s_val rfl rfl (runs_move rfl) ?_
    refine s_val rfl rfl (runs_slice_from (i) Tryd.underlying38 ty28 rfl rfl (by omega) (by omega)) ?_
    refine s_val rfl rfl (runs_assign rfl) ?_
    refine s_nil ?_
    refine hK8 _ _ ?_
    refine c_ret ?_
    refine hret _ _ ?_
    rw [hlow]
    exact ends1 (reads_tmp rfl) ⟨rfl, hX⟩
  · refine c_seqreg (fun K5 hK5 => ?_)
    refine s_val rfl rfl (runs_move rfl) ?_
    refine s_val rfl rfl (runs_move rfl) ?_
    refine s_val rfl rfl (runs_len_slice Tryd.underlying38 rfl) ?_
    refine s_val rfl rfl (runs_dt (runs_lt rfl rfl) (by omega)) ?_
    refine s_val rfl rfl (runs_move rfl) ?_
    refine s_val rfl rfl (runs_move rfl) ?_
    refine s_val rfl rfl (runs_move rfl) ?_
    refine s_val rfl rfl (runs_index_slice (i) Tryd.underlying38 ty28 rfl rfl (by omega) (by omega)) ?_
    refine s_val rfl rfl (runs_fieldAddr Tryd.underlying28 rfl ty24 (by decide) rfl) ?_
    refine s_val rfl rfl (runs_loadAgg ty24 rfl (hat.sub 0 2) (by rfl)) ?_
    refine s_val rfl rfl (runs_move rfl) ?_
    refine s_callf (xs := [.tmp 17, .tmp 18]) rfl rfl Tryd.func13 rfl (by kernel_rfl) rfl (bit_calls r.id k _ hro.id hk) ?_
    rintro _ w2 ⟨rfl, X2_11⟩
    replace hX : Chg w _ [] := (hX.trans X2_11).mono (by intro k hk hlt; simp at hk ⊢ <;> first | omega | grind)
    have zs2_11 := X2_11.size
    refine s_val rfl rfl (runs_dt (runs_eqd rfl rfl) (by omega)) ?_
    refine s_val rfl rfl (runs_pickt rfl rfl) ?_
    refine s_nil ?_
    refine hK5 _ _ ?_
    refine c_true rfl ?_
    refine c_skip ?_
    refine hK4 _ _ ?_
    refine c_block ?_
    refine c_reg ?_
    refine s_val rfl rfl (runs_move rfl) ?_
    refine s_val rfl rfl (runs_add64 rfl rfl (by omega)) ?_
    refine s_val rfl rfl (runs_assign rfl) ?_
    refine s_nil ?_
    dsimp only [Post.setN]
    exact ⟨i + 1, ⟨rfl, rfl, rfl, rfl, trivial⟩, ⟨by omega, fun j hj q hq => by
      by_cases e : j = i
      · subst e; rw [hr] at hq; cases hq; exact hb
      · exact hlo j (by omega) q hq, hX⟩, by omega⟩
  · refine c_seqreg (fun K5 hK5 => ?_)
    refine s_val rfl rfl (runs_move rfl) ?_
    refine s_val rfl rfl (runs_move rfl) ?_
    refine s_val rfl rfl (runs_len_slice Tryd.underlying38 rfl) ?_
    refine s_val rfl rfl (runs_dt (runs_lt rfl rfl) (by omega)) ?_
    refine s_val rfl rfl (runs_move rfl) ?_
    refine s_val rfl rfl (runs_move rfl) ?_
    refine s_val rfl rfl (runs_move rfl) ?_
    refine s_val rfl rfl (runs_index_slice (i) Tryd.underlying38 ty28 rfl rfl (by omega) (by omega)) ?_
    refine s_val rfl rfl (runs_fieldAddr Tryd.underlying28 rfl ty24 (by decide) rfl) ?_
    refine s_val rfl rfl (runs_loadAgg ty24 rfl (hat.sub 0 2) (by rfl)) ?_
    refine s_val rfl rfl (runs_move rfl) ?_
    refine s_callf (xs := [.tmp 17, .tmp 18]) rfl rfl Tryd.func13 rfl (by kernel_rfl) rfl (bit_calls r.id k _ hro.id hk) ?_
    rintro _ w2 ⟨rfl, X2_11⟩
    replace hX : Chg w _ [] := (hX.trans X2_11).mono (by intro k hk hlt; simp at hk ⊢ <;> first | omega | grind)
    have zs2_11 := X2_11.size
    refine s_val rfl rfl (runs_df (runs_eqd rfl rfl) (by omega)) ?_
    refine s_val rfl rfl (runs_pickt rfl rfl) ?_
    refine s_nil ?_
    have hlow : Sp.lows l k = i := lows_is (by omega) hlo (fun q hq => by rw [hr] at hq; cases hq; exact hb)
    refine hK5 _ _ ?_
    refine c_false rfl ?_
    refine c_exit ?_
    refine hK3 _ _ ?_
    refine c_seq (fun K11 hK11 => ?_)
    refine c_seqreg (fun K12 hK12 => ?_)
    refine s_val rfl rfl (runs_move rfl) ?_
    refine s_val rfl rfl (runs_df (runs_eqd rfl rfl) (by decide)) ?_
    refine s_nil ?_
    refine hK12 _ _ ?_
    refine c_false rfl ?_
    refine c_skip ?_
    refine hK11 _ _ ?_
    refine c_seqreg (fun K13 hK13 => ?_)
    refine s_val rfl rfl (runs_move rfl) ?_
    refine s_val rfl rfl (runs_move rfl) ?_
    refine s_val rfl rfl (runs_slice_from (i) Tryd.underlying38 ty28 rfl rfl (by omega) (by omega)) ?_
    refine s_val rfl rfl (runs_assign rfl) ?_
    refine s_nil ?_
    refine hK13 _ _ ?_
    refine c_ret ?_
    refine hret _ _ ?_
    rw [hlow]
    exact ends1 (reads_tmp rfl) ⟨rfl, hX⟩
end Go.Proofs.YtmmijecookbajaaDoor
namespace Go.Proofs.YtmmijecookbajaaDoor
open Go Go.RowKit

def Sp.anone : List Nat := Sp.sha [4]
def Sp.aleaf (a : Ac) : List Nat := Sp.sha (2 :: Sp.acB a)
def Sp.fork (x y : List Nat) : List Nat := Sp.sha (3 :: (x ++ y))
theorem anone_ok : HOk Sp.anone := sha_ok _
theorem aleaf_ok (a : Ac) : HOk (Sp.aleaf a) := sha_ok _
theorem fork_ok (x y : List Nat) : HOk (Sp.fork x y) := sha_ok _
def Sp.arootF : Nat → Nat → List Ac → List Nat
  | 0, _, _ => Sp.anone
  | f + 1, k, l => match l with
    | [] => Sp.anone
    | [a] => Sp.aleaf a
    | l => Sp.fork (Sp.arootF f (k + 1) (l.take (Sp.lows l k))) (Sp.arootF f (k + 1) (l.drop (Sp.lows l k)))
def Sp.anotesF : Nat → Nat → List Ac → List (List Nat)
  | 0, _, _ => [[4]]
  | f + 1, k, l => match l with
    | [] => [[4]]
    | [a] => [2 :: Sp.acB a]
    | l => Sp.anotesF f (k + 1) (l.take (Sp.lows l k)) ++ Sp.anotesF f (k + 1) (l.drop (Sp.lows l k)) ++ [3 :: (Sp.arootF f (k + 1) (l.take (Sp.lows l k)) ++ Sp.arootF f (k + 1) (l.drop (Sp.lows l k)))]
/-- The root of accounts that have the first k bits in common; what is noted for it. -/
def Sp.aroot (k : Nat) (l : List Ac) : List Nat := Sp.arootF (129 - k) k l
def Sp.anotes (k : Nat) (l : List Ac) : List (List Nat) := Sp.anotesF (129 - k) k l
theorem aroot_nil {k : Nat} (hk : k ≤ 128) : Sp.aroot k [] = Sp.anone := by unfold Sp.aroot; rw [show 129 - k = (128 - k) + 1 by omega]; rfl
theorem aroot_one {k : Nat} (hk : k ≤ 128) (a : Ac) : Sp.aroot k [a] = Sp.aleaf a := by unfold Sp.aroot; rw [show 129 - k = (128 - k) + 1 by omega]; rfl
theorem aroot_two {k : Nat} (hk : k < 128) {l : List Ac} (h : 2 ≤ l.length) : Sp.aroot k l = Sp.fork (Sp.aroot (k + 1) (l.take (Sp.lows l k))) (Sp.aroot (k + 1) (l.drop (Sp.lows l k))) := by
  unfold Sp.aroot
  rw [show 129 - k = (128 - k) + 1 by omega, show 129 - (k + 1) = 128 - k by omega]
  match l, h with
  | a :: b :: l, _ => rfl
theorem anotes_nil {k : Nat} (hk : k ≤ 128) : Sp.anotes k [] = [[4]] := by unfold Sp.anotes; rw [show 129 - k = (128 - k) + 1 by omega]; rfl
theorem anotes_one {k : Nat} (hk : k ≤ 128) (a : Ac) : Sp.anotes k [a] = [2 :: Sp.acB a] := by unfold Sp.anotes; rw [show 129 - k = (128 - k) + 1 by omega]; rfl
theorem anotes_two {k : Nat} (hk : k < 128) {l : List Ac} (h : 2 ≤ l.length) : Sp.anotes k l = Sp.anotes (k + 1) (l.take (Sp.lows l k)) ++ Sp.anotes (k + 1) (l.drop (Sp.lows l k)) ++ [3 :: (Sp.aroot (k + 1) (l.take (Sp.lows l k)) ++ Sp.aroot (k + 1) (l.drop (Sp.lows l k)))] := by
  unfold Sp.anotes Sp.aroot
  rw [show 129 - k = (128 - k) + 1 by omega, show 129 - (k + 1) = 128 - k by omega]
  match l, h with
  | a :: b :: l, _ => rfl
theorem aroot_ok (k : Nat) (l : List Ac) : HOk (Sp.aroot k l) := by
  unfold Sp.aroot
  cases 129 - k with
  | zero => exact anone_ok
  | succ f =>
    match l with
    | [] => exact anone_ok
    | [a] => exact aleaf_ok a
    | _ :: _ :: _ => exact fork_ok _ _
theorem bit_nat {x : Nm} {k : Nat} (hx : NOk x) (hk : k < 128) : Sp.bit x k = Sp.nat x / 2 ^ (127 - k) % 2 := by
  obtain ⟨x1, x2⟩ := x
  obtain ⟨h1, h2⟩ := hx
  simp only at h1 h2
  unfold Sp.bit Sp.nat
  by_cases h : k < 64
  · rw [if_pos h]
    simp only
    rw [show 2 ^ (127 - k) = 18446744073709551616 * 2 ^ (63 - k) by rw [show (18446744073709551616 : Nat) = 2 ^ 64 by decide, ← Nat.pow_add]; congr 1; omega, ← Nat.div_div_eq_div_mul, Nat.add_comm, Nat.add_mul_div_right _ _ (by decide), Nat.div_eq_of_lt h2, Nat.zero_add]
  · rw [if_neg h, if_pos hk]
    simp only
    have e : x1 * 18446744073709551616 = x1 * 2 ^ (k - 64) * 2 * 2 ^ (127 - k) := by
      rw [show (18446744073709551616 : Nat) = 2 ^ (k - 64) * 2 * 2 ^ (127 - k) by rw [← Nat.pow_succ, ← Nat.pow_add, show k - 64 + 1 + (127 - k) = 64 by omega]]
      simp only [Nat.mul_assoc]
    rw [e, Nat.add_comm, Nat.add_mul_div_right _ _ (Nat.pow_pos (by decide)), Nat.add_mul_mod_self_right]
theorem nat_inj {x y : Nm} (hx : NOk x) (hy : NOk y) (h : Sp.nat x = Sp.nat y) : x = y := by
  obtain ⟨x1, x2⟩ := x
  obtain ⟨y1, y2⟩ := y
  simp only [NOk, Sp.nat] at hx hy h
  rw [Prod.mk.injEq]
  omega
/-- Accounts, rising by their numbers, which have the first k bits in common. -/
structure Wf (k : Nat) (l : List Ac) : Prop where
  k_le : k ≤ 128
  rise : l.Pairwise fun a b => Sp.nat a.id < Sp.nat b.id
  same : ∀ a ∈ l, ∀ b ∈ l, Sp.nat a.id / 2 ^ (128 - k) = Sp.nat b.id / 2 ^ (128 - k)
  num : ∀ a ∈ l, a.Num
theorem Wf.lt {k : Nat} {l : List Ac} (h : Wf k l) (h2 : 2 ≤ l.length) : k < 128 := by
  rcases Nat.lt_or_ge k 128 with h' | h'
  · exact h'
  · obtain rfl : k = 128 := by have := h.k_le; omega
    match l, h2, h with
    | a :: b :: l, _, h =>
      have h1 := (List.pairwise_cons.1 h.rise).1 b (by simp)
      have h2 := h.same a (by simp) b (by simp)
      simp at h2
      omega
theorem nat_step {x : Nm} {k : Nat} (hx : NOk x) (hk : k < 128) : Sp.nat x / 2 ^ (127 - k) = 2 * (Sp.nat x / 2 ^ (128 - k)) + Sp.bit x k := by
  rw [bit_nat hx hk, show 2 ^ (128 - k) = 2 ^ (127 - k) * 2 by rw [← Nat.pow_succ]; congr 1; omega, ← Nat.div_div_eq_div_mul]
  omega
theorem lows_take {l : List Ac} {k : Nat} : ∀ a ∈ l.take (Sp.lows l k), Sp.bit a.id k = 0 := by
  induction l with
  | nil => simp
  | cons x l ih =>
    intro a ha
    by_cases hx : Sp.bit x.id k = 0
    · have e : Sp.lows (x :: l) k = Sp.lows l k + 1 := by simp [Sp.lows, hx]
      rw [e, List.take_succ_cons] at ha
      rcases List.mem_cons.1 ha with rfl | ha
      · exact hx
      · exact ih a ha
    · have e : Sp.lows (x :: l) k = 0 := by simp [Sp.lows, hx]
      rw [e] at ha; simp at ha
theorem lows_drop {l : List Ac} {k : Nat} (h : Wf k l) (hk : k < 128) : ∀ a ∈ l.drop (Sp.lows l k), Sp.bit a.id k = 1 := by
  induction l with
  | nil => simp
  | cons x l ih =>
    intro a ha
    have hw : Wf k l := ⟨h.k_le, (List.pairwise_cons.1 h.rise).2, fun a ha b hb => h.same a (by simp [ha]) b (by simp [hb]), fun a ha => h.num a (by simp [ha])⟩
    by_cases hx : Sp.bit x.id k = 0
    · have e : Sp.lows (x :: l) k = Sp.lows l k + 1 := by simp [Sp.lows, hx]
      rw [e, List.drop_succ_cons] at ha
      exact ih hw a ha
    · have e : Sp.lows (x :: l) k = 0 := by simp [Sp.lows, hx]
      rw [e, List.drop_zero] at ha
      have hb := bit_lt x.id k
      rcases List.mem_cons.1 ha with rfl | ha
      · omega
      · have h1 := (List.pairwise_cons.1 h.rise).1 a ha
        have h2 := h.same x (by simp) a (by simp [ha])
        have h3 := nat_step (h.num x (by simp)).id hk
        have h4 := nat_step (h.num a (by simp [ha])).id hk
        have h5 : Sp.nat x.id / 2 ^ (127 - k) ≤ Sp.nat a.id / 2 ^ (127 - k) := Nat.div_le_div_right (by omega)
        have := bit_lt a.id k
        omega
theorem Wf.sub {k b : Nat} {l l' : List Ac} (h : Wf k l) (hk : k < 128) (hs : l'.Sublist l) (hb : ∀ a ∈ l', Sp.bit a.id k = b) : Wf (k + 1) l' := by
  refine ⟨hk, h.rise.sublist hs, fun x hx y hy => ?_, fun a ha => h.num a (hs.subset ha)⟩
  have h1 := nat_step (h.num x (hs.subset hx)).id hk
  have h2 := nat_step (h.num y (hs.subset hy)).id hk
  have h3 := h.same x (hs.subset hx) y (hs.subset hy)
  rw [show 128 - (k + 1) = 127 - k by omega, h1, h2, h3, hb x hx, hb y hy]
theorem Wf.lo {k : Nat} {l : List Ac} (h : Wf k l) (hk : k < 128) : Wf (k + 1) (l.take (Sp.lows l k)) := h.sub hk (List.take_sublist _ _) lows_take
theorem Wf.hi {k : Nat} {l : List Ac} (h : Wf k l) (hk : k < 128) : Wf (k + 1) (l.drop (Sp.lows l k)) := h.sub hk (List.drop_sublist _ _) (lows_drop h hk)
/-- How much is noted. -/
theorem anotes_le : ∀ (m k : Nat) (l : List Ac), 128 - k < m → Wf k l → (Sp.anotes k l).length ≤ 1 + l.length * (2 * (128 - k)) := by
  intro m
  induction m with
  | zero => intro k l h; omega
  | succ m ih =>
    intro k l hm h
    match l, h with
    | [], h => rw [anotes_nil h.k_le]; simp
    | [a], h => rw [anotes_one h.k_le]; simp
    | a :: b :: l', h =>
      have h2 : 2 ≤ (a :: b :: l').length := by simp
      generalize a :: b :: l' = l at h h2 ⊢
      have hk := h.lt h2
      have hle := lows_le l k
      have h3 := ih (k + 1) _ (by omega) (h.lo hk)
      have h4 := ih (k + 1) _ (by omega) (h.hi hk)
      rw [anotes_two hk h2]
      simp only [List.length_append, List.length_cons, List.length_nil, List.length_take, List.length_drop] at h3 h4 ⊢
      rw [Nat.min_eq_left hle] at h3
      obtain ⟨p, hp⟩ : ∃ p, p = Sp.lows l k := ⟨_, rfl⟩
      rw [← hp] at h3 h4 hle ⊢
      obtain ⟨q, hq⟩ : ∃ q, q = l.length - p := ⟨_, rfl⟩
      rw [← hq] at h4
      have hn : l.length = p + q := by omega
      have e : 2 * (128 - k) = 2 * (128 - (k + 1)) + 2 := by omega
      obtain ⟨X, hX⟩ : ∃ X, X = 2 * (128 - (k + 1)) := ⟨_, rfl⟩
      rw [← hX] at h3 h4 e
      rw [hn, e, Nat.mul_add, Nat.add_mul]
      omega
end Go.Proofs.YtmmijecookbajaaDoor
namespace Go.Proofs.YtmmijecookbajaaDoor
open Go Go.RowKit

set_option maxHeartbeats 1000000 in
theorem none_calls (B : Nat) (A : Nat → Prop) (tv : Value) (ts : TS) (w : World) (hG : GH B w) (hBw : B ≤ w.heap.size) (hT : TArg w B A tv ts) (hA : ∀ k, A k → k < w.heap.size) (htl : ts.len ≤ 1073741824) :
    CallsR Tryd.prog 19 #[tv] w fun v w' => v = hv Sp.anone ∧ ∃ ts', TPost w w' B A tv ts ts' [[4]] := by
  have hTf := hT.foot_hi
  have hTl := hT.foot_lo
  refine f_enter (l := [tv]) Tryd.func19 rfl rfl rfl rfl ?_
  intro Qf hnrm hret
  refine c_seqreg (fun K1 hK1 => ?_)
  refine s_alloc ty26 rfl rfl ?_
  intro b4 w1 e0_0 z0_0 hb4 X0_0
  replace hG := hG.keep X0_0 (by simp)
  replace hT := hT.keep0 X0_0
  obtain ⟨am, cm, hmc, hmr, hml⟩ := hG.none.rd
  refine s_nil ?_
  refine hK1 _ _ ?_
  refine c_seqreg (fun K3 hK3 => ?_)
  refine s_val rfl rfl (runs_move rfl) ?_
  refine s_val rfl rfl (runs_load1 ty47 rfl hmc) ?_
  refine s_lit (xs := [.tmp 4]) Tryd.underlying51 ty47 rfl rfl rfl rfl rfl (by simp [Value.cells]) (by decide) (by decide) ?_
  intro b8 w2 e1_2 z1_2 hb8 X1_2
  have s1_2_hb4 := hb4.lt
  replace hG := hG.keep X1_2 (by simp)
  replace hT := hT.keep0 X1_2
  replace hb4 := hb4.keep X1_2 (by simp)
  replace hmr := hmr.keep X1_2 (by simp)
  refine s_callf (xs := [.tmp 3, .tmp 5]) rfl rfl Tryd.func18 rfl (by kernel_rfl) rfl (of_calls B A tv ts [[4]] _ _ _ _ hG.sha (by have := hb4.lt; omega) (parts_one hb8 hmr (by simp)) (by simp) hT (fun k hk => by have := hA k hk; omega) htl) ?_
  rintro v9 w3 ⟨rfl, ts', hTP⟩
  replace hb4 := hb4.keep hTP.chg (fun hm => by have := hA _ (hTf _ hm); omega)
  have zs1_3 := hTP.chg.size
  refine s_storeAll ty26 rfl rfl rfl hb4 (by rw [natsC_length, sha_length]) rfl (natsC_one _ _) ?_
  intro w4 z1_4 h1_4 X1_4
  replace hb4 := h1_4
  refine s_nil ?_
  refine hK3 _ _ ?_
  refine c_ret ?_
  refine hret _ _ ?_
  refine ends1 (reads_cell ty26 rfl hb4.at (by rw [natsC_length, sha_length])) ⟨by simp [hv, Sp.anone], ts', ?_⟩
  have hTP' := TPost.wrap (X0_0.trans X1_2) (by simp) hTP X1_4 (by intro k hk; obtain rfl : k = b4 := (by simpa using hk); exact ⟨by omega, fun h => h.elim (fun h => by have := hA _ h; omega) (fun h => by omega)⟩)
  simpa using hTP'
set_option maxHeartbeats 1000000 in
theorem aleaf_calls (B : Nat) (A : Nat → Prop) (tv : Value) (ts : TS) (r : Ac) (w : World) (hG : GH B w) (hBw : B ≤ w.heap.size) (hn : r.Num) (hT : TArg w B A tv ts) (hA : ∀ k, A k → k < w.heap.size) (htl : ts.len ≤ 1073741824) :
    CallsR Tryd.prog 23 #[tv, av r] w fun v w' => v = hv (Sp.aleaf r) ∧ ∃ ts', TPost w w' B A tv ts ts' [2 :: Sp.acB r] := by
  have hTf := hT.foot_hi
  have hTl := hT.foot_lo
  refine f_enter (l := [tv, av r]) Tryd.func23 rfl rfl rfl rfl ?_
  intro Qf hnrm hret
  refine c_seqreg (fun K1 hK1 => ?_)
  refine s_box rfl rfl rfl ?_
  intro b3 w01 e0_0 z0_0 hb3 X0_0
  replace hG := hG.keep X0_0 (by simp)
  replace hT := hT.keep0 X0_0
  replace hb3 : Blk w01 b3 (r.C) 28 := hb3
  refine s_alloc ty26 rfl rfl ?_
  intro b4 w1 e0_1 z0_1 hb4 X0_1
  have s0_1_hb3 := hb3.lt
  replace hG := hG.keep X0_1 (by simp)
  replace hT := hT.keep0 X0_1
  replace hb3 := hb3.keep X0_1 (by simp)
  refine s_nil ?_
  have hz3 := hb3.lt
  have hz4 := hb4.lt
  refine hK1 _ _ ?_
  refine c_seqdraw [6] ((foot ts)) (by kernel_rfl) ?_
  intro K4 hK4 wd1 Xd1 hS1
  replace hG := hG.keep Xd1 (by simp)
  replace hT := hT.keep0 Xd1
  replace hb3 := hb3.keep Xd1 (by simp)
  replace hb4 := hb4.keep Xd1 (by simp)
  have zd1 := Xd1.size
  obtain ⟨am, cm, hmc, hmr, hml⟩ := hG.leaf.rd
  have hzd := Xd1.size
  refine d_take 0 5 rfl (by kernel_rfl) rfl hS1 (fun wS hS => runs_move rfl) ?_
  refine d_take 1 6 rfl (by kernel_rfl) rfl hS1 (fun wS hS => runs_load1 ty47 rfl (hS.cell hmc (show 2 ∉ foot ts from fun hm => by have := hTl _ hm; have := hG.leaf.lt; omega))) ?_
  refine d_take 2 7 rfl (by kernel_rfl) rfl hS1 (fun wS hS => runs_loadAgg ty28 rfl ((hb3.keep hS (fun hm => by have := hA _ (hTf _ hm); omega)).at) (Ac.len hn)) ?_
  refine d_only 3 rfl (by kernel_rfl) ?_
  refine s_callf (xs := [.tmp 7]) rfl rfl Tryd.func29 rfl (by kernel_rfl) rfl (wireAcc_calls r _ hn) ?_
  rintro v13 w13 ⟨hown13, X1_3⟩
  have zs1_3 := X1_3.size
  obtain ⟨a5, c5, rfl, hR5, _⟩ := own_bytes hown13
  replace hS1 : Chg wd1 _ (foot ts) := (hS1.trans X1_3).mono (by intro k hk _; simpa using hk)
  refine s_nil ⟨.inr hS1, ?_⟩
  refine d_only 4 rfl (by kernel_rfl) ?_
  refine s_lit (xs := [.tmp 6, .tmp 8]) Tryd.underlying51 ty47 rfl rfl rfl rfl rfl (by simp [Value.cells]) (by decide) (by decide) ?_
  intro b9 w14 e1_4 z1_4 hb9 X1_4
  have X34 : Chg wd1 w14 [] := X1_3.trans X1_4
  have hz34 := X34.size
  replace hS1 : Chg wd1 _ (foot ts) := (hS1.trans X1_4).mono (by intro k hk _; simpa using hk)
  refine s_nil ⟨.inr hS1, ?_⟩
  refine d_only 5 rfl (by kernel_rfl) ?_
  refine s_callf (xs := [.tmp 5, .tmp 9]) rfl rfl Tryd.func18 rfl (by kernel_rfl) rfl (of_calls B A tv ts [[2], Sp.acB r] _ _ _ _ (hG.keep X34 (by simp)).sha (by omega) (parts_two hb9 (hmr.grow X34) (hR5.keep X1_4 (by simp)) (by simp) (acB_lt hn)) (by simp [acB_len hn]) (hT.keep0 X34) (fun k hk => by have := hA k hk; omega) htl) ?_
  rintro v9 w5 ⟨rfl, ts', hTP⟩
  have zs1_5 := hTP.chg.size
  replace hS1 : Chg wd1 _ (foot ts) := (hS1.trans hTP.chg).mono (by intro k hk _; simpa using hk)
  refine s_nil ⟨.inr hS1, ?_⟩
  refine d_only 6 rfl (by kernel_rfl) ?_
  replace hb3 := hb3.keep hS1 (fun hm => by have := hA _ (hTf _ hm); omega)
  replace hb4 := hb4.keep hS1 (fun hm => by have := hA _ (hTf _ hm); omega)
  refine s_storeAll ty26 rfl rfl rfl hb4 (by rw [natsC_length, sha_length]) rfl (natsC_one _ _) ?_
  intro w6 z1_6 h1_6 X1_6
  replace hb3 := hb3.keep X1_6 (by simp; omega)
  replace hb4 := h1_6
  refine s_nil ⟨.inl rfl, ?_⟩
  refine d_done (by kernel_rfl) ?_
  refine hK4 _ _ ?_
  refine c_ret ?_
  refine hret _ _ ?_
  refine ends1 (reads_cell ty26 rfl hb4.at (by rw [natsC_length, sha_length])) ⟨by simp [hv, Sp.aleaf], ts', ?_⟩
  have hTP' := TPost.wrap (((X0_0.trans X0_1).trans Xd1).trans X34) (by simp) hTP X1_6 (by intro k hk; obtain rfl : k = b4 := (by simpa using hk); exact ⟨by omega, fun h => h.elim (fun h => by have := hA _ h; omega) (fun h => by omega)⟩)
  simpa using hTP'
end Go.Proofs.YtmmijecookbajaaDoor
namespace Go.Proofs.YtmmijecookbajaaDoor
open Go Go.RowKit

theorem AcR.lt {w : World} {a : Option Addr} {n c : Nat} {l : List Ac} (h : AcR w a n c l) (hn : 0 < n) : ∀ p, a = some p → p.block < w.heap.size := by
  intro p hp
  subst hp
  obtain ⟨b, o, e⟩ := h.rd.some_ hn
  cases e
  obtain ⟨x, hx⟩ : ∃ x, l[0]? = some x := ⟨_, List.getElem?_eq_getElem (by rw [h.len]; omega)⟩
  have := (h.elem hx) 0 (.int .u64 (x.id.1 : Int)) rfl
  exact World.block_lt_of_cell? w _ this
set_option maxHeartbeats 2000000 in
theorem aroot_calls (m : Nat) : ∀ (k : Nat) (l : List Ac), 128 - k < m → ∀ (B : Nat) (A : Nat → Prop) (tv : Value) (ts : TS) (a : Option Addr) (n c : Nat) (w : World), Pre B A tv ts w → Wf k l → AcR w a n c l →
    (∀ p, a = some p → p.block ∉ foot ts) → n ≤ 1000 → ts.len + (Sp.anotes k l).length ≤ 1073741824 →
    CallsR Tryd.prog 15 #[tv, .int .i64 (k : Int), .slice a n c] w fun v w' => v = hv (Sp.aroot k l) ∧ ∃ ts', TPost w w' B A tv ts ts' (Sp.anotes k l) := by
  induction m with
  | zero => intro k l h; omega
  | succ m ih =>
    intro k l hm B A tv ts a n c w hP hwf hR hd hn htl
    have hA := hP.a
    have hTf := hP.t.foot_hi
    have hlen := hR.len
    have hk128 := hwf.k_le
    refine f_enter (l := [tv, .int .i64 (k : Int), .slice a n c]) Tryd.func15 rfl rfl rfl rfl ?_
    intro Qf hnrm hret
    refine c_seqreg (fun K1 hK1 => ?_)
    refine s_alloc ty26 rfl rfl ?_
    intro b4 w1 e0_0 z0_0 hb4 X0_0
    replace hP := hP.keep0 X0_0
    replace hR := hR.keep0 X0_0
    refine s_nil ?_
    refine hK1 _ _ ?_
    refine c_seq (fun K3 hK3 => ?_)
    refine c_seqreg (fun K4 hK4 => ?_)
    refine s_val rfl rfl (runs_move rfl) ?_
    refine s_val rfl rfl (runs_len_slice Tryd.underlying38 rfl) ?_
    refine s_nil ?_
    refine hK4 _ _ ?_
    refine c_block ?_
    refine c_seqreg (fun K5 hK5 => ?_)
    refine s_val rfl rfl (runs_eqd rfl rfl) ?_
    refine s_val rfl rfl (runs_assign rfl) ?_
    refine s_nil ?_
    refine hK5 _ _ ?_
    refine c_dec rfl (fun h0 => ?_) (fun h0 => ?_)
    · obtain rfl : l = [] := List.eq_nil_of_length_eq_zero (by omega)
      rw [anotes_nil hk128, List.length_singleton] at htl
      refine c_seqreg (fun K6 hK6 => ?_)
      refine s_val rfl rfl (runs_move rfl) ?_
      refine s_callf (xs := [.tmp 13]) rfl rfl Tryd.func19 rfl (by kernel_rfl) rfl (none_calls B A tv ts _ hP.g hP.bw hP.t hP.a (by omega)) ?_
      rintro v9 w3 ⟨rfl, ts', hTP⟩
      replace hb4 := hb4.keep hTP.chg (fun hm => by have := hA _ (hTf _ hm); omega)
      have zs3_1 := hTP.chg.size
      refine s_storeAll ty26 rfl rfl rfl hb4 (by rw [natsC_length, anone_ok.1]) rfl (natsC_one _ _) ?_
      intro w4 z3_2 h3_2 X3_2
      replace hb4 := h3_2
      refine s_nil ?_
      refine hK6 _ _ ?_
      refine c_ret ?_
      refine hret _ _ ?_
      refine ends1 (reads_cell ty26 rfl hb4.at (by rw [natsC_length, anone_ok.1])) ⟨by rw [aroot_nil hk128], ts', ?_⟩
      have hTP' := TPost.wrap X0_0 (by simp) hTP X3_2 (by intro k hk; obtain rfl : k = b4 := (by simpa using hk); exact ⟨by omega, fun h => h.elim (fun h => by have := hA _ h; omega) (fun h => by omega)⟩)
      rw [anotes_nil hk128]
      exact hTP'
    · refine c_seqreg (fun K9 hK9 => ?_)
      refine s_val rfl rfl (runs_eqd rfl rfl) ?_
      refine s_val rfl rfl (runs_assign rfl) ?_
      refine s_nil ?_
      refine hK9 _ _ ?_
      refine c_dec rfl (fun h1 => ?_) (fun h1 => ?_)
      · obtain ⟨x, rfl⟩ : ∃ x, l = [x] := by
          match l, hlen with
          | [x], _ => exact ⟨x, rfl⟩
          | [], e => simp at e; omega
          | _ :: _ :: _, e => simp at e; omega
        obtain ⟨ba, oa, rfl⟩ := hR.rd.some_ (by omega)
        have hxn := hR.ok x (by simp)
        rw [anotes_one hk128, List.length_singleton] at htl
        refine c_seqreg (fun K10 hK10 => ?_)
        refine s_val rfl rfl (runs_move rfl) ?_
        refine s_val rfl rfl (runs_move rfl) ?_
        refine s_val rfl rfl (runs_index_slice (0) Tryd.underlying38 ty28 rfl rfl (by omega) (by omega)) ?_
        refine s_val rfl rfl (runs_loadAgg ty28 rfl (hR.elem (i := 0) rfl) (Ac.len hxn)) ?_
        refine s_callf (xs := [.tmp 17, .tmp 20]) rfl rfl Tryd.func23 rfl (by kernel_rfl) rfl (aleaf_calls B A tv ts x _ hP.g hP.bw hxn hP.t hP.a (by omega)) ?_
        rintro v9 w5 ⟨rfl, ts', hTP⟩
        replace hb4 := hb4.keep hTP.chg (fun hm => by have := hA _ (hTf _ hm); omega)
        have zs5_4 := hTP.chg.size
        refine s_storeAll ty26 rfl rfl rfl hb4 (by rw [natsC_length, (aleaf_ok x).1]) rfl (natsC_one _ _) ?_
        intro w55 z5_5 h5_5 X5_5
        replace hb4 := h5_5
        refine s_nil ?_
        refine hK10 _ _ ?_
        refine c_ret ?_
        refine hret _ _ ?_
        refine ends1 (reads_cell ty26 rfl hb4.at (by rw [natsC_length, (aleaf_ok x).1])) ⟨by rw [aroot_one hk128], ts', ?_⟩
        have hTP' := TPost.wrap X0_0 (by simp) hTP X5_5 (by intro k hk; obtain rfl : k = b4 := (by simpa using hk); exact ⟨by omega, fun h => h.elim (fun h => by have := hA _ h; omega) (fun h => by omega)⟩)
        rw [anotes_one hk128]
        exact hTP'
      · have h2 : 2 ≤ l.length := by omega
        have hk := hwf.lt h2
        have hroot := aroot_two hk h2
        have hnotes := anotes_two hk h2
        have hnl : (Sp.anotes k l).length = (Sp.anotes (k + 1) (l.take (Sp.lows l k))).length + (Sp.anotes (k + 1) (l.drop (Sp.lows l k))).length + 1 := by rw [hnotes]; simp only [List.length_append, List.length_cons, List.length_nil]
        rw [hnl] at htl
        have hple := lows_le l k
        have hwlo := hwf.lo hk
        have hwhi := hwf.hi hk
        have hlt := hR.lt (by omega)
        have hz4 := hb4.lt
        refine c_skip ?_
        refine hK3 _ _ ?_
        refine c_seqreg (fun K13 hK13 => ?_)
        refine s_val rfl rfl (runs_move rfl) ?_
        refine s_val rfl rfl (runs_move rfl) ?_
        refine s_val rfl rfl (runs_as (v' := .int .i64 ((k + 1 : Nat) : Int)) (runs_add64 rfl rfl (by omega)) (congrArg (Value.int .i64) (by omega))) ?_
        refine s_val rfl rfl (runs_move rfl) ?_
        refine s_val rfl rfl (runs_move rfl) ?_
        refine s_callf (xs := [.tmp 25, .const (.int .i64 0), .tmp 26]) rfl rfl Tryd.func26 rfl (by kernel_rfl) rfl (part0_calls l a n c k _ hR (by omega) (by omega)) ?_
        rintro _ w65 ⟨rfl, X6_5⟩
        replace hP := hP.keep0 X6_5
        replace hR := hR.keep0 X6_5
        replace hb4 := hb4.keep X6_5 (by simp)
        have zs6_5 := X6_5.size
        refine s_callf (xs := [.tmp 22, .tmp 24, .tmp 27]) rfl rfl Tryd.func15 rfl (by kernel_rfl) rfl (ih (k + 1) _ (by omega) B A tv ts a (Sp.lows l k) c _ hP hwlo (hR.to_ _ (by omega)) hd (by omega) (by omega)) ?_
        rintro _ w66 ⟨rfl, ts1, hTP1⟩
        replace hR := hR.keep hTP1.chg hd
        replace hb4 := hb4.keep hTP1.chg (fun hm => by have := hA _ (hTf _ hm); omega)
        have zs6_6 := hTP1.chg.size
        replace hP := hP.after hTP1
        have hnn1 := hTP1.notes.len
        refine s_val rfl rfl (runs_move rfl) ?_
        refine s_val rfl rfl (runs_move rfl) ?_
        refine s_val rfl rfl (runs_as (v' := .int .i64 ((k + 1 : Nat) : Int)) (runs_add64 rfl rfl (by omega)) (congrArg (Value.int .i64) (by omega))) ?_
        refine s_val rfl rfl (runs_move rfl) ?_
        refine s_val rfl rfl (runs_move rfl) ?_
        refine s_callf (xs := [.tmp 32, .const (.int .i64 1), .tmp 33]) rfl rfl Tryd.func26 rfl (by kernel_rfl) rfl (part1_calls l a n c k _ hR (by omega) (by omega)) ?_
        rintro _ w612 ⟨rfl, X6_12⟩
        replace hR := hR.keep0 X6_12
        replace hb4 := hb4.keep X6_12 (by simp)
        replace hP := hP.keep0 X6_12
        replace hTP1 := hTP1.then0 X6_12
        have zs6_12 := X6_12.size
        refine s_callf (xs := [.tmp 29, .tmp 31, .tmp 34]) rfl rfl Tryd.func15 rfl (by kernel_rfl) rfl (ih (k + 1) _ (by omega) B _ tv ts1 (cutA a c (Sp.lows l k) 46) (n - Sp.lows l k) (c - Sp.lows l k) _ hP hwhi (hR.from_ _ (by omega)) (fun p hp hm => by
              obtain ⟨q, hq, e⟩ := cutA_block hp
              rcases hTP1.foot _ hm with hm | hm
              · exact hd q hq (e ▸ hm)
              · have := hlt q hq; omega) (by omega) (by omega)) ?_
        rintro _ w613 ⟨rfl, ts2, hTP2⟩
        replace hb4 := hb4.keep hTP2.chg (fun hm => by rcases hTP1.foot _ hm with hm | hm; have := hA _ (hTf _ hm); omega; omega)
        have zs6_13 := hTP2.chg.size
        have hTP12 := hTP1.trans hTP2 (fun b hb => hb.elim .inl (fun h => .inr ⟨h.1, by omega⟩))
        have hG := (hP.after hTP2).g
        have hbw2 := (hP.after hTP2).bw
        have hnn2 := hTP2.notes.len
        have hF := hTP12.arg.foot_hi
        have hFl := hTP12.arg.foot_lo
        have hXf : Chg w613 w613 [] := Chg.refl _ _
        refine s_alloc ty26 rfl rfl ?_
        intro b7 w614 e6_14 z6_14 hb7 X6_14
        have s6_14_hb4 := hb4.lt
        have s6_14_hXf := hXf.size
        replace hb4 := hb4.keep X6_14 (by simp)
        replace hG := hG.keep X6_14 (by simp)
        replace hXf : Chg w613 _ [] := (hXf.trans X6_14).mono (by intro k hk hlt; simp at hk ⊢ <;> first | omega | grind)
        refine s_alloc ty26 rfl rfl ?_
        intro b8 w615 e6_15 z6_15 hb8 X6_15
        have s6_15_hb4 := hb4.lt
        have s6_15_hXf := hXf.size
        have s6_15_hb7 := hb7.lt
        replace hb4 := hb4.keep X6_15 (by simp)
        replace hG := hG.keep X6_15 (by simp)
        replace hXf : Chg w613 _ [] := (hXf.trans X6_15).mono (by intro k hk hlt; simp at hk ⊢ <;> first | omega | grind)
        replace hb7 := hb7.keep X6_15 (by simp)
        refine s_storeAll ty26 rfl rfl rfl hb7 (by rw [natsC_length, (aroot_ok _ _).1]) rfl (natsC_one _ _) ?_
        intro w616 z6_16 h6_16 X6_16
        replace hb4 := hb4.keep X6_16 (by simp; omega)
        replace hG := hG.keep X6_16 (by simp; omega)
        replace hXf : Chg w613 _ [] := (hXf.trans X6_16).mono (by intro k hk hlt; simp at hk ⊢ <;> first | omega | grind)
        replace hb8 := hb8.keep X6_16 (by simp; omega)
        replace hb7 := h6_16
        refine s_storeAll ty26 rfl rfl rfl hb8 (by rw [natsC_length, (aroot_ok _ _).1]) rfl (natsC_one _ _) ?_
        intro w617 z6_17 h6_17 X6_17
        replace hb4 := hb4.keep X6_17 (by simp; omega)
        replace hG := hG.keep X6_17 (by simp; omega)
        replace hXf : Chg w613 _ [] := (hXf.trans X6_17).mono (by intro k hk hlt; simp at hk ⊢ <;> first | omega | grind)
        replace hb7 := hb7.keep X6_17 (by simp; omega)
        replace hb8 := h6_17
        refine s_nil ?_
        obtain ⟨x, hx⟩ : ∃ x, x = Sp.aroot (k + 1) (l.take (Sp.lows l k)) := ⟨_, rfl⟩
        obtain ⟨y, hy⟩ : ∃ y, y = Sp.aroot (k + 1) (l.drop (Sp.lows l k)) := ⟨_, rfl⟩
        rw [← hx, ← hy] at hroot hnotes
        rw [← hx] at hb7
        rw [← hy] at hb8
        have okx : HOk x := by rw [hx]; exact aroot_ok _ _
        have oky : HOk y := by rw [hy]; exact aroot_ok _ _
        have hl7 := hb7.lt
        have hl8 := hb8.lt
        have hzf := hXf.size
        refine hK13 _ _ ?_
        refine c_seqdraw [6] ((foot ts2)) (by kernel_rfl) ?_
        intro K22 hK22 wd7 Xd7 hS7
        replace hb4 := hb4.keep Xd7 (by simp)
        replace hG := hG.keep Xd7 (by simp)
        replace hXf : Chg w613 _ [] := (hXf.trans Xd7).mono (by intro k hk hlt; simp at hk ⊢ <;> first | omega | grind)
        replace hb7 := hb7.keep Xd7 (by simp)
        replace hb8 := hb8.keep Xd7 (by simp)
        have zd7 := Xd7.size
        obtain ⟨am, cm, hmc, hmr, hml⟩ := hG.fork.rd
        have hTPa := hTP12.then0 hXf
        have hT3 := hTPa.arg
        have hzf7 := hXf.size
        have hz4' := hb4.lt
        refine d_take 0 36 rfl (by kernel_rfl) rfl hS7 (fun wS hS => runs_move rfl) ?_
        refine d_take 1 37 rfl (by kernel_rfl) rfl hS7 (fun wS hS => runs_load1 ty47 rfl (hS.cell hmc (show 0 ∉ foot ts2 from fun hm => by have := hFl _ hm; have := hG.fork.lt; omega))) ?_
        refine d_take 2 38 rfl (by kernel_rfl) rfl hS7 (fun wS hS => runs_slice_arr Tryd.underlying26 ty5 rfl) ?_
        refine d_take 3 39 rfl (by kernel_rfl) rfl hS7 (fun wS hS => runs_slice_arr Tryd.underlying26 ty5 rfl) ?_
        refine d_only 4 rfl (by kernel_rfl) ?_
        refine s_lit (xs := [.tmp 37, .tmp 38, .tmp 39]) Tryd.underlying51 ty47 rfl rfl rfl rfl rfl (by simp [Value.cells]) (by decide) (by decide) ?_
        intro b11 w74 e7_4 z7_4 hb11 X7_4
        have hz74 := X7_4.size
        replace hS7 : Chg wd7 _ ((foot ts2)) := (hS7.trans X7_4).mono (by intro k hk hlt; simp at hk ⊢ <;> first | assumption | omega)
        refine s_nil ⟨.inr hS7, ?_⟩
        refine d_only 5 rfl (by kernel_rfl) ?_
        refine s_callf (xs := [.tmp 36, .tmp 40]) rfl rfl Tryd.func18 rfl (by kernel_rfl) rfl (of_calls B _ tv ts2 [[3], x, y] _ _ _ _ (hG.keep X7_4 (by simp)).sha (by omega) (parts_three hb11 (hmr.grow X7_4) (lit_reads (hb7.keep X7_4 (by simp)) (by rw [natsC_length, okx.1]) (by decide)) (lit_reads (hb8.keep X7_4 (by simp)) (by rw [natsC_length, oky.1]) (by decide)) (by simp) okx.2 oky.2) (by simp [okx.1, oky.1]) (hT3.keep0 X7_4) (fun k hk => hk.elim (fun h => by have := hA k h; omega) (fun h => by have := h.2; omega)) (by omega)) ?_
        rintro v9 w75 ⟨rfl, ts', hTP⟩
        have zs7_5 := hTP.chg.size
        have hz75 := hTP.chg.size
        replace hS7 : Chg wd7 _ ((foot ts2)) := (hS7.trans hTP.chg).mono (by intro k hk hlt; simp at hk ⊢ <;> first | assumption | omega)
        refine s_nil ⟨.inr hS7, ?_⟩
        refine d_only 6 rfl (by kernel_rfl) ?_
        replace hb4 := hb4.keep hS7 (fun hm => by have h := hF _ hm; rcases h with h | h; have := hA _ h; omega; omega)
        replace hb7 := hb7.keep hS7 (fun hm => by have h := hF _ hm; rcases h with h | h; have := hA _ h; omega; omega)
        replace hb8 := hb8.keep hS7 (fun hm => by have h := hF _ hm; rcases h with h | h; have := hA _ h; omega; omega)
        refine s_storeAll ty26 rfl rfl rfl hb4 (by rw [natsC_length, sha_length]) rfl (natsC_one _ _) ?_
        intro w76 z7_6 h7_6 X7_6
        replace hb7 := hb7.keep X7_6 (by simp; omega)
        replace hb8 := hb8.keep X7_6 (by simp; omega)
        replace hb4 := h7_6
        refine s_nil ⟨.inl rfl, ?_⟩
        refine d_done (by kernel_rfl) ?_
        refine hK22 _ _ ?_
        refine c_ret ?_
        refine hret _ _ ?_
        refine ends1 (reads_cell ty26 rfl hb4.at (by rw [natsC_length, sha_length])) ⟨by rw [hroot]; simp [hv, Sp.fork], ts', ?_⟩
        have hTP13 := (hTPa.then0 X7_4).trans hTP (fun b hb => hb.elim .inl (fun h => .inr ⟨h.1, by omega⟩))
        rw [hnotes]
        have hTP' := TPost.wrap (X0_0.trans X6_5) (by simp) hTP13 X7_6 (by intro k hk; obtain rfl : k = b4 := (by simpa using hk); exact ⟨by omega, fun h => h.elim (fun h => by have := hA _ h; omega) (fun h => by omega)⟩)
        simpa using hTP'
end Go.Proofs.YtmmijecookbajaaDoor
namespace Go.Proofs.YtmmijecookbajaaDoor
open Go Go.RowKit

/-- As bytes can tell it. -/
def Sp.tameA (r : Ac) : Ac := { r with ledger := (land64 r.ledger 4294967295 : Int), flags := (land64 r.flags 65535 : Int), time := (land64 r.time 281474976710655 : Int), rows := (land64 r.rows 281474976710655 : Int) }
theorem tameA_num {r : Ac} (h : r.Num) : (Sp.tameA r).Num := ⟨h.id, h.dp, h.dq, h.cp, h.cq, h.root⟩
theorem tameA_ok {r : Ac} (h : r.Num) : (Sp.tameA r).Ok := by
  have h1 := land64_le (a := r.ledger) (m := 4294967295) (by decide)
  have h2 := land64_le (a := r.flags) (m := 65535) (by decide)
  have h3 := land64_le (a := r.time) (m := 281474976710655) (by decide)
  have h4 := land64_le (a := r.rows) (m := 281474976710655) (by decide)
  exact ⟨tameA_num h, by simp only [Sp.tameA]; omega, by simp only [Sp.tameA]; omega, by simp only [Sp.tameA]; omega, by simp only [Sp.tameA]; omega⟩
set_option maxHeartbeats 1000000 in
theorem tame_calls (r : Ac) (w : World) (hn : r.Num) : CallsR Tryd.prog 11 #[av r] w fun v w' => v = av (Sp.tameA r) ∧ Chg w w' [] := by
  have hX : Chg w w [] := Chg.refl _ _
  have hn' := tameA_num hn
  refine f_enter (l := [av r]) Tryd.func11 rfl rfl rfl rfl ?_
  intro Qf hnrm hret
  refine c_seqreg (fun K1 hK1 => ?_)
  refine s_box rfl rfl rfl ?_
  intro b1 w0 e0_0 z0_0 hb1 X0_0
  have s0_0_hX := hX.size
  replace hX : Chg w _ [] := (hX.trans X0_0).mono (by intro k hk hlt; simp at hk ⊢ <;> first | omega | grind)
  replace hb1 : Blk w0 b1 (r.C) 28 := hb1
  refine s_alloc ty28 rfl rfl ?_
  intro b2 w1 e0_1 z0_1 hb2 X0_1
  have s0_1_hX := hX.size
  have s0_1_hb1 := hb1.lt
  replace hX : Chg w _ [] := (hX.trans X0_1).mono (by intro k hk hlt; simp at hk ⊢ <;> first | omega | grind)
  replace hb1 := hb1.keep X0_1 (by simp)
  refine s_nil ?_
  have hl1 := hb1.lt
  have hl2 := hb2.lt
  refine hK1 _ _ ?_
  refine c_seqreg (fun K4 hK4 => ?_)
  refine s_val rfl rfl (runs_fieldAddr Tryd.underlying28 rfl ty3 (by decide) rfl) ?_
  refine s_val rfl rfl (runs_load1 ty3 rfl (hb1.cell (o := 2) rfl)) ?_
  refine s_val rfl rfl (runs_and64 4294967295 rfl (by decide)) ?_
  refine s_val rfl rfl (runs_fieldAddr Tryd.underlying28 rfl ty3 (by decide) rfl) ?_
  refine s_val rfl rfl (runs_load1 ty3 rfl (hb1.cell (o := 3) rfl)) ?_
  refine s_val rfl rfl (runs_and64 65535 rfl (by decide)) ?_
  refine s_val rfl rfl (runs_fieldAddr Tryd.underlying28 rfl ty3 (by decide) rfl) ?_
  refine s_val rfl rfl (runs_load1 ty3 rfl (hb1.cell (o := 12) rfl)) ?_
  refine s_val rfl rfl (runs_and64 281474976710655 rfl (by decide)) ?_
  refine s_val rfl rfl (runs_fieldAddr Tryd.underlying28 rfl ty3 (by decide) rfl) ?_
  refine s_val rfl rfl (runs_load1 ty3 rfl (hb1.cell (o := 13) rfl)) ?_
  refine s_val rfl rfl (runs_and64 281474976710655 rfl (by decide)) ?_
  refine s_val rfl rfl (runs_fieldAddr Tryd.underlying28 rfl ty3 (by decide) rfl) ?_
  refine s_store1 ty3 rfl rfl rfl hb1 (by rfl) (by simp [Ac.C, Ac.H] <;> omega) ?_
  intro w113 z1_13 h1_13 X1_13
  replace hX : Chg w _ [] := (hX.trans X1_13).mono (by intro k hk hlt; simp at hk ⊢ <;> first | omega | grind)
  replace hb2 := hb2.keep X1_13 (by simp; omega)
  replace hb1 := h1_13
  refine s_val rfl rfl (runs_fieldAddr Tryd.underlying28 rfl ty3 (by decide) rfl) ?_
  refine s_store1 ty3 rfl rfl rfl hb1 (by rfl) (by simp [Ac.C, Ac.H] <;> omega) ?_
  intro w115 z1_15 h1_15 X1_15
  replace hX : Chg w _ [] := (hX.trans X1_15).mono (by intro k hk hlt; simp at hk ⊢ <;> first | omega | grind)
  replace hb2 := hb2.keep X1_15 (by simp; omega)
  replace hb1 := h1_15
  refine s_val rfl rfl (runs_fieldAddr Tryd.underlying28 rfl ty3 (by decide) rfl) ?_
  refine s_store1 ty3 rfl rfl rfl hb1 (by rfl) (by simp [Ac.C, Ac.H] <;> omega) ?_
  intro w117 z1_17 h1_17 X1_17
  replace hX : Chg w _ [] := (hX.trans X1_17).mono (by intro k hk hlt; simp at hk ⊢ <;> first | omega | grind)
  replace hb2 := hb2.keep X1_17 (by simp; omega)
  replace hb1 := h1_17
  refine s_val rfl rfl (runs_fieldAddr Tryd.underlying28 rfl ty3 (by decide) rfl) ?_
  refine s_store1 ty3 rfl rfl rfl hb1 (by rfl) (by simp [Ac.C, Ac.H] <;> omega) ?_
  intro w119 z1_19 h1_19 X1_19
  replace hX : Chg w _ [] := (hX.trans X1_19).mono (by intro k hk hlt; simp at hk ⊢ <;> first | omega | grind)
  replace hb2 := hb2.keep X1_19 (by simp; omega)
  replace hb1 := h1_19
  refine s_nil ?_
  replace hb1 : Blk w119 b1 (Sp.tameA r).C 28 := hb1
  refine hK4 _ _ ?_
  refine c_seqreg (fun K9 hK9 => ?_)
  refine s_val rfl rfl (runs_loadAgg ty28 rfl hb1.at (Ac.len hn')) ?_
  refine s_storeAll ty28 rfl rfl rfl hb2 (Ac.len hn') rfl (Ac.one _) ?_
  intro w21 z2_1 h2_1 X2_1
  replace hX : Chg w _ [] := (hX.trans X2_1).mono (by intro k hk hlt; simp at hk ⊢ <;> first | omega | grind)
  replace hb1 := hb1.keep X2_1 (by simp; omega)
  replace hb2 := h2_1
  refine s_nil ?_
  refine hK9 _ _ ?_
  refine c_ret ?_
  refine hret _ _ ?_
  exact ends1 (reads_cell ty28 rfl hb2.at (Ac.len hn')) ⟨rfl, hX⟩
end Go.Proofs.YtmmijecookbajaaDoor
