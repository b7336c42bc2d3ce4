/- history.Climb answers as the specification says and notes what it hashed. Conditions: none beyond those in the theorems. By an AI agent. -/
import Derived.Test.YtlkeofjgmegcfaaDoorFit
import Derived.Test.YtlkeofjgmegcfaaDoorSp4
namespace Go.Proofs.YtlkeofjgmegcfaaDoor
open Go Go.RowKit

theorem zero_ok : HOk Sp.zero32 := ⟨by simp [Sp.zero32], by intro x hx; simp [Sp.zero32] at hx; omega⟩
theorem zero_cells : natsC .u8 Sp.zero32 = List.replicate 32 (.int .u8 0) := by simp [natsC, Sp.zero32]
theorem climb_ok (leaf : List Nat) (hl : HOk leaf) : ∀ (m : Nat) (p : List (List Nat)) (i n : Nat), p.length ≤ m → HOk (Sp.climb leaf i n p).1 := by
  intro m p i n _
  by_cases h1 : n ≤ 1
  · rw [Sp.climb_one _ _ _ _ h1]; exact hl
  rcases List.eq_nil_or_concat p with rfl | ⟨q, x, rfl⟩
  · rw [Sp.climb_nil _ _ _ (by omega)]; exact zero_ok
  · rw [List.concat_eq_append]
    by_cases hi : i < Sp.split n
    · rw [Sp.climb_lo _ _ _ _ _ (by omega) hi]; exact node_ok _ _
    · rw [Sp.climb_hi _ _ _ _ _ (by omega) hi]; exact node_ok _ _

set_option maxHeartbeats 2000000 in
theorem climb_calls (m : Nat) : ∀ (path : List (List Nat)), path.length ≤ m → ∀ (B : Nat) (A : Nat → Prop) (tv : Value) (ts : TS) (leaf : List Nat) (i n : Nat) (a : Option Addr) (np cp : Nat) (w : World), Pre B A tv ts w → HOk leaf → HsR w a np cp path →
    (∀ p, a = some p → p.block ∉ foot ts) → (∀ p, a = some p → 0 < np → p.block < w.heap.size) → n ≤ 1048576 → np ≤ 1048576 → i < n → ts.len + np ≤ 1073741824 →
    CallsR Tryd.prog 21 #[tv, hv leaf, .int .i64 (i : Int), .int .i64 (n : Int), .slice a np cp] w fun v w' => v = .tuple #[hv (Sp.climb leaf i n path).1, .bool (Sp.climb leaf i n path).2] ∧ ∃ ts', TPost w w' B A tv ts ts' (Sp.climbN leaf i n path) := by
  induction m with
  | zero =>
    intro path hm B A tv ts leaf i n a np cp w hP hlf hH hd hlb hn hnp hi htl
    obtain rfl : path = [] := List.eq_nil_of_length_eq_zero (by omega)
    obtain rfl : np = 0 := hH.len.symm
    have hA := hP.a
    have hX : Chg w w [] := Chg.refl _ _
    have hT := hP.t
    have hG := hP.g
    refine f_enter (l := [tv, hv leaf, .int .i64 (i : Int), .int .i64 (n : Int), .slice a 0 cp]) Tryd.func21 rfl rfl rfl rfl ?_
    intro Qf hnrm hret
    refine c_seqreg (fun K1 hK1 => ?_)
    refine s_box rfl rfl rfl ?_
    intro b6 w1 e0_0 z0_0 hb6 X0_0
    have s0_0_hX := hX.size
    replace hG := hG.keep X0_0 (by simp)
    replace hT := hT.keep0 X0_0
    replace hH := hH.keep0 X0_0
    replace hX : Chg w _ [] := (hX.trans X0_0).mono (by intro k hk hlt; simp at hk ⊢ <;> first | omega | grind)
    replace hb6 : Blk w1 b6 (natsC .u8 leaf) 43 := hb6
    refine s_alloc ty43 rfl rfl ?_
    intro b10 w2 e0_1 z0_1 hb10 X0_1
    have s0_1_hX := hX.size
    have s0_1_hb6 := hb6.lt
    replace hG := hG.keep X0_1 (by simp)
    replace hT := hT.keep0 X0_1
    replace hH := hH.keep0 X0_1
    replace hX : Chg w _ [] := (hX.trans X0_1).mono (by intro k hk hlt; simp at hk ⊢ <;> first | omega | grind)
    replace hb6 := hb6.keep X0_1 (by simp)
    have hz6 := hb6.lt
    have hz10 := hb10.lt
    refine s_val rfl rfl (runs_assign rfl) ?_
    refine s_nil ?_
    refine hK1 _ _ ?_
    refine c_seq (fun K4 hK4 => ?_)
    refine c_seqreg (fun K5 hK5 => ?_)
    refine s_val rfl rfl (runs_move rfl) ?_
    refine s_val rfl rfl (runs_df (runs_lt rfl rfl) (by omega)) ?_
    refine s_val rfl rfl (runs_move rfl) ?_
    refine s_val rfl rfl (runs_move rfl) ?_
    refine s_val rfl rfl (runs_move rfl) ?_
    refine s_val rfl rfl (runs_df (runs_ge rfl rfl) (by omega)) ?_
    refine s_val rfl rfl (runs_pickf rfl rfl) ?_
    refine s_nil ?_
    refine hK5 _ _ ?_
    refine c_false rfl ?_
    refine c_skip ?_
    refine hK4 _ _ ?_
    refine c_seq (fun K6 hK6 => ?_)
    refine c_seqreg (fun K7 hK7 => ?_)
    refine s_val rfl rfl (runs_move rfl) ?_
    refine s_val rfl rfl (runs_eqd rfl rfl) ?_
    refine s_nil ?_
    refine hK7 _ _ ?_
    refine c_dec rfl (fun hn1 => ?_) (fun hn1 => ?_)
    · refine c_seqreg (fun K8 hK8 => ?_)
      refine s_val rfl rfl (runs_loadAgg ty43 rfl hb6.at (by rw [natsC_length, hlf.1])) ?_
      refine s_val rfl rfl (runs_move rfl) ?_
      refine s_val rfl rfl (runs_len_slice Tryd.underlying51 rfl) ?_
      refine s_val rfl rfl (runs_dt (runs_eqd rfl rfl) (by omega)) ?_
      refine s_storeAll ty43 rfl rfl rfl hb10 (by rw [natsC_length, hlf.1]) rfl (natsC_one _ _) ?_
      intro w3 z4_4 h4_4 X4_4
      replace hT := hT.keep X4_4 (by intro k hk; obtain rfl : k = b10 := (by simpa using hk); exact fun h => by have := hA _ h; omega)
      replace hX : Chg w _ [] := (hX.trans X4_4).mono (by intro k hk hlt; simp at hk ⊢ <;> first | omega | grind)
      replace hb6 := hb6.keep X4_4 (by simp; omega)
      replace hb10 := h4_4
      refine s_val rfl rfl (runs_assign rfl) ?_
      refine s_nil ?_
      refine hK8 _ _ ?_
      refine c_ret ?_
      refine hret _ _ ?_
      rw [Sp.climb_one _ _ _ _ (by omega), Sp.climbN_one _ _ _ _ (by omega)]
      refine ends2 (reads_cell ty43 rfl hb10.at (by rw [natsC_length, hlf.1])) (reads_tmp rfl) ⟨rfl, ts, ?_⟩
      exact ⟨hT.mono fun _ h => .inl h, Notes.nil, by simpa using hX.mono (by simp), fun _ h => .inl h⟩
    · refine c_skip ?_
      refine hK6 _ _ ?_
      refine c_seq (fun K10 hK10 => ?_)
      refine c_seqreg (fun K11 hK11 => ?_)
      refine s_val rfl rfl (runs_move rfl) ?_
      refine s_val rfl rfl (runs_len_slice Tryd.underlying51 rfl) ?_
      refine s_val rfl rfl (runs_dt (runs_eqd rfl rfl) (by omega)) ?_
      refine s_nil ?_
      refine hK11 _ _ ?_
      refine c_true rfl ?_
      refine c_seqreg (fun K12 hK12 => ?_)
      refine s_val rfl rfl (runs_build_zero Tryd.underlying43 ty5 ty43 rfl) ?_
      refine s_storeAll ty43 rfl rfl rfl hb10 (by simp) rfl (by simp [Value.oneCell']) ?_
      intro w3 z6_1 h6_1 X6_1
      replace hT := hT.keep X6_1 (by intro k hk; obtain rfl : k = b10 := (by simpa using hk); exact fun h => by have := hA _ h; omega)
      replace hX : Chg w _ [] := (hX.trans X6_1).mono (by intro k hk hlt; simp at hk ⊢ <;> first | omega | grind)
      replace hb6 := hb6.keep X6_1 (by simp; omega)
      replace hb10 := h6_1
      refine s_val rfl rfl (runs_assign rfl) ?_
      refine s_nil ?_
      refine hK12 _ _ ?_
      refine c_ret ?_
      refine hret _ _ ?_
      rw [Sp.climb_nil _ _ _ (by omega), Sp.climbN_nil]
      refine ends2 (reads_cell ty43 rfl hb10.at (by simp)) (reads_tmp rfl) ⟨by simp [hv, zero_cells], ts, ?_⟩
      exact ⟨hT.mono fun _ h => .inl h, Notes.nil, by simpa using hX.mono (by simp), fun _ h => .inl h⟩
  | succ m ih =>
    intro path hm B A tv ts leaf i n a np cp w hP hlf hH hd hlb hn hnp hi htl
    have hA := hP.a
    have hBw := hP.bw
    have hTf := hP.t.foot_hi
    have hTl := hP.t.foot_lo
    have hlen := hH.len
    have hX : Chg w w [] := Chg.refl _ _
    have hT := hP.t
    have hG := hP.g
    refine f_enter (l := [tv, hv leaf, .int .i64 (i : Int), .int .i64 (n : Int), .slice a np cp]) Tryd.func21 rfl rfl rfl rfl ?_
    intro Qf hnrm hret
    refine c_seqreg (fun K1 hK1 => ?_)
    refine s_box rfl rfl rfl ?_
    intro b6 w1 e0_0 z0_0 hb6 X0_0
    have s0_0_hX := hX.size
    replace hG := hG.keep X0_0 (by simp)
    replace hT := hT.keep0 X0_0
    replace hH := hH.keep0 X0_0
    replace hX : Chg w _ [] := (hX.trans X0_0).mono (by intro k hk hlt; simp at hk ⊢ <;> first | omega | grind)
    replace hb6 : Blk w1 b6 (natsC .u8 leaf) 43 := hb6
    refine s_alloc ty43 rfl rfl ?_
    intro b10 w2 e0_1 z0_1 hb10 X0_1
    have s0_1_hX := hX.size
    have s0_1_hb6 := hb6.lt
    replace hG := hG.keep X0_1 (by simp)
    replace hT := hT.keep0 X0_1
    replace hH := hH.keep0 X0_1
    replace hX : Chg w _ [] := (hX.trans X0_1).mono (by intro k hk hlt; simp at hk ⊢ <;> first | omega | grind)
    replace hb6 := hb6.keep X0_1 (by simp)
    have hz6 := hb6.lt
    have hz10 := hb10.lt
    refine s_val rfl rfl (runs_assign rfl) ?_
    refine s_nil ?_
    refine hK1 _ _ ?_
    refine c_seq (fun K4 hK4 => ?_)
    refine c_seqreg (fun K5 hK5 => ?_)
    refine s_val rfl rfl (runs_move rfl) ?_
    refine s_val rfl rfl (runs_df (runs_lt rfl rfl) (by omega)) ?_
    refine s_val rfl rfl (runs_move rfl) ?_
    refine s_val rfl rfl (runs_move rfl) ?_
    refine s_val rfl rfl (runs_move rfl) ?_
    refine s_val rfl rfl (runs_df (runs_ge rfl rfl) (by omega)) ?_
    refine s_val rfl rfl (runs_pickf rfl rfl) ?_
    refine s_nil ?_
    refine hK5 _ _ ?_
    refine c_false rfl ?_
    refine c_skip ?_
    refine hK4 _ _ ?_
    refine c_seq (fun K6 hK6 => ?_)
    refine c_seqreg (fun K7 hK7 => ?_)
    refine s_val rfl rfl (runs_move rfl) ?_
    refine s_val rfl rfl (runs_eqd rfl rfl) ?_
    refine s_nil ?_
    refine hK7 _ _ ?_
    refine c_dec rfl (fun hn1 => ?_) (fun hn1 => ?_)
    · refine c_seqreg (fun K8 hK8 => ?_)
      refine s_val rfl rfl (runs_loadAgg ty43 rfl hb6.at (by rw [natsC_length, hlf.1])) ?_
      refine s_val rfl rfl (runs_move rfl) ?_
      refine s_val rfl rfl (runs_len_slice Tryd.underlying51 rfl) ?_
      refine s_val rfl rfl (runs_eqd rfl rfl) ?_
      refine s_storeAll ty43 rfl rfl rfl hb10 (by rw [natsC_length, hlf.1]) rfl (natsC_one _ _) ?_
      intro w3 z4_4 h4_4 X4_4
      replace hT := hT.keep X4_4 (by intro k hk; obtain rfl : k = b10 := (by simpa using hk); exact fun h => by have := hA _ h; omega)
      replace hX : Chg w _ [] := (hX.trans X4_4).mono (by intro k hk hlt; simp at hk ⊢ <;> first | omega | grind)
      replace hb6 := hb6.keep X4_4 (by simp; omega)
      replace hb10 := h4_4
      refine s_val rfl rfl (runs_assign rfl) ?_
      refine s_nil ?_
      refine hK8 _ _ ?_
      refine c_ret ?_
      refine hret _ _ ?_
      rw [Sp.climb_one _ _ _ _ (by omega), Sp.climbN_one _ _ _ _ (by omega)]
      refine ends2 (reads_cell ty43 rfl hb10.at (by rw [natsC_length, hlf.1])) (reads_tmp rfl) ⟨(by
        have : decide ((np : Int) = 0) = path.isEmpty := by
          rw [← hlen]; cases path <;> simp <;> omega
        rw [this]), ts, ?_⟩
      exact ⟨hT.mono fun _ h => .inl h, Notes.nil, by simpa using hX.mono (by simp), fun _ h => .inl h⟩
    · refine c_skip ?_
      refine hK6 _ _ ?_
      refine c_seq (fun K10 hK10 => ?_)
      refine c_seqreg (fun K11 hK11 => ?_)
      refine s_val rfl rfl (runs_move rfl) ?_
      refine s_val rfl rfl (runs_len_slice Tryd.underlying51 rfl) ?_
      refine s_val rfl rfl (runs_eqd rfl rfl) ?_
      refine s_nil ?_
      refine hK11 _ _ ?_
      refine c_dec rfl (fun hp0 => ?_) (fun hp0 => ?_)
      · obtain rfl : path = [] := List.eq_nil_of_length_eq_zero (by omega)
        refine c_seqreg (fun K12 hK12 => ?_)
        refine s_val rfl rfl (runs_build_zero Tryd.underlying43 ty5 ty43 rfl) ?_
        refine s_storeAll ty43 rfl rfl rfl hb10 (by simp) rfl (by simp [Value.oneCell']) ?_
        intro w3 z6_1 h6_1 X6_1
        replace hT := hT.keep X6_1 (by intro k hk; obtain rfl : k = b10 := (by simpa using hk); exact fun h => by have := hA _ h; omega)
        replace hX : Chg w _ [] := (hX.trans X6_1).mono (by intro k hk hlt; simp at hk ⊢ <;> first | omega | grind)
        replace hb6 := hb6.keep X6_1 (by simp; omega)
        replace hb10 := h6_1
        refine s_val rfl rfl (runs_assign rfl) ?_
        refine s_nil ?_
        refine hK12 _ _ ?_
        refine c_ret ?_
        refine hret _ _ ?_
        rw [Sp.climb_nil _ _ _ (by omega), Sp.climbN_nil]
        refine ends2 (reads_cell ty43 rfl hb10.at (by simp)) (reads_tmp rfl) ⟨by simp [hv, zero_cells], ts, ?_⟩
        exact ⟨hT.mono fun _ h => .inl h, Notes.nil, by simpa using hX.mono (by simp), fun _ h => .inl h⟩
      · obtain ⟨bp, op, rfl⟩ := hH.rd.some_ (by omega)
        have hbp := hlb _ rfl (by omega)
        simp only at hbp
        obtain ⟨q, last, rfl⟩ : ∃ q last, path = q ++ [last] := by
          rcases List.eq_nil_or_concat path with rfl | ⟨q, x, rfl⟩
          · simp at hlen; omega
          · exact ⟨q, x, List.concat_eq_append⟩
        rw [List.length_append, List.length_singleton] at hlen hm
        have hlast : (q ++ [last])[np - 1]? = some last := by rw [show np - 1 = q.length by omega]; simp
        have hlo := hH.ok last (by simp)
        have hq : ∀ {w : World}, HsR w (some ⟨bp, op, none⟩) np cp (q ++ [last]) → HsR w (some ⟨bp, op, none⟩) (np - 1) cp q := fun h => by
          have := h.to_ (np - 1) (by omega)
          rwa [show (q ++ [last]).take (np - 1) = q by rw [show np - 1 = q.length by omega]; simp] at this
        have hcn := hH.rd.le
        refine c_skip ?_
        refine hK10 _ _ ?_
        refine c_seqreg (fun K14 hK14 => ?_)
        refine s_val rfl rfl (runs_move rfl) ?_
        refine s_val rfl rfl (runs_move rfl) ?_
        refine s_val rfl rfl (runs_len_slice Tryd.underlying51 rfl) ?_
        refine s_val rfl rfl (runs_sub64 rfl rfl (by omega)) ?_
        refine s_val rfl rfl (runs_index_slice (np - 1) Tryd.underlying51 ty43 rfl rfl (by omega) (by omega)) ?_
        refine s_val rfl rfl (runs_loadAgg ty43 rfl (hH.elem hlast) (by rw [natsC_length, hlo.1])) ?_
        refine s_alloc ty43 rfl rfl ?_
        intro b12 w4 e7_6 z7_6 hb12 X7_6
        have s7_6_hX := hX.size
        have s7_6_hb6 := hb6.lt
        have s7_6_hb10 := hb10.lt
        replace hG := hG.keep X7_6 (by simp)
        replace hT := hT.keep0 X7_6
        replace hH := hH.keep0 X7_6
        replace hX : Chg w _ [] := (hX.trans X7_6).mono (by intro k hk hlt; simp at hk ⊢ <;> first | omega | grind)
        replace hb6 := hb6.keep X7_6 (by simp)
        replace hb10 := hb10.keep X7_6 (by simp)
        refine s_storeAll ty43 rfl rfl rfl hb12 (by rw [natsC_length, hlo.1]) rfl (natsC_one _ _) ?_
        intro w5 z7_7 h7_7 X7_7
        replace hG := hG.keep X7_7 (by simp; omega)
        replace hT := hT.keep X7_7 (by intro k hk; obtain rfl : k = b12 := (by simpa using hk); exact fun h => by have := hA _ h; omega)
        replace hH := hH.keep X7_7 (fun p hp => by cases hp; simp; omega)
        replace hX : Chg w _ [] := (hX.trans X7_7).mono (by intro k hk hlt; simp at hk ⊢ <;> first | omega | grind)
        replace hb6 := hb6.keep X7_7 (by simp; omega)
        replace hb10 := hb10.keep X7_7 (by simp; omega)
        replace hb12 := h7_7
        refine s_nil ?_
        refine hK14 _ _ ?_
        refine c_seqreg (fun K17 hK17 => ?_)
        refine s_val rfl rfl (runs_move rfl) ?_
        refine s_callf (xs := [.tmp 42]) rfl rfl Tryd.func28 rfl (by kernel_rfl) rfl (split_calls n _ (by omega)) ?_
        rintro _ w6 ⟨rfl, X8_1⟩
        replace hG := hG.keep X8_1 (by simp)
        replace hT := hT.keep0 X8_1
        replace hH := hH.keep0 X8_1
        replace hX : Chg w _ [] := (hX.trans X8_1).mono (by intro k hk hlt; simp at hk ⊢ <;> first | omega | grind)
        replace hb6 := hb6.keep X8_1 (by simp)
        replace hb10 := hb10.keep X8_1 (by simp)
        replace hb12 := hb12.keep X8_1 (by simp)
        have zs8_1 := X8_1.size
        refine s_val rfl rfl (runs_assign rfl) ?_
        refine s_nil ?_
        have h2 : 2 ≤ n := by omega
        have hk0 := Sp.split_pos n
        have hk1 := Sp.split_lt h2
        obtain ⟨k, hk⟩ : ∃ k, k = Sp.split n := ⟨_, rfl⟩
        rw [← hk] at hk0 hk1 ⊢
        have hzX := hX.size
        have hz12 := hb12.lt
        have nq := Sp.climbN_len leaf q i k
        have nq' := Sp.climbN_len leaf q (i - k) (n - k)
        refine hK17 _ _ ?_
        refine c_seq (fun K19 hK19 => ?_)
        refine c_seqreg (fun K20 hK20 => ?_)
        refine s_val rfl rfl (runs_move rfl) ?_
        refine s_val rfl rfl (runs_move rfl) ?_
        refine s_val rfl rfl (runs_lt rfl rfl) ?_
        refine s_nil ?_
        refine hK20 _ _ ?_
        refine c_dec rfl (fun hik => ?_) (fun hik => ?_)
        · refine c_seqdraw [] ((foot ts)) (by kernel_rfl) ?_
          intro K21 hK21 wd10 Xd10 hS10
          replace hG := hG.keep Xd10 (by simp)
          replace hT := hT.keep0 Xd10
          replace hH := hH.keep0 Xd10
          replace hX : Chg w _ [] := (hX.trans Xd10).mono (by intro k hk hlt; simp at hk ⊢ <;> first | omega | grind)
          replace hb6 := hb6.keep Xd10 (by simp)
          replace hb10 := hb10.keep Xd10 (by simp)
          replace hb12 := hb12.keep Xd10 (by simp)
          have zd10 := Xd10.size
          have hzd := Xd10.size
          refine d_take 0 48 rfl (by kernel_rfl) rfl hS10 (fun wS hS => runs_move rfl) ?_
          refine d_take 1 49 rfl (by kernel_rfl) rfl hS10 (fun wS hS => runs_loadAgg ty43 rfl ((hb6.keep hS (fun hm => by have := hA _ (hTf _ hm); omega)).at) (by rw [natsC_length, hlf.1])) ?_
          refine d_take 2 50 rfl (by kernel_rfl) rfl hS10 (fun wS hS => runs_move rfl) ?_
          refine d_take 3 51 rfl (by kernel_rfl) rfl hS10 (fun wS hS => runs_move rfl) ?_
          refine d_take 4 52 rfl (by kernel_rfl) rfl hS10 (fun wS hS => runs_move rfl) ?_
          refine d_take 5 53 rfl (by kernel_rfl) rfl hS10 (fun wS hS => runs_move rfl) ?_
          refine d_take 6 54 rfl (by kernel_rfl) rfl hS10 (fun wS hS => runs_len_slice Tryd.underlying51 rfl) ?_
          refine d_take 7 55 rfl (by kernel_rfl) rfl hS10 (fun wS hS => runs_sub64 rfl rfl (by omega)) ?_
          refine d_take 8 56 rfl (by kernel_rfl) rfl hS10 (fun wS hS => runs_slice_to (np - 1) Tryd.underlying51 ty43 rfl rfl (by omega) (by omega)) ?_
          refine d_two 9 13 rfl rfl (by kernel_rfl) ?_ ?_
          · refine s_callf (xs := [.tmp 48, .tmp 49, .tmp 50, .tmp 51, .tmp 56]) rfl rfl Tryd.func21 rfl (by kernel_rfl) rfl (ih q (by omega) B A tv ts leaf i k _ _ _ _ ⟨hG, by have := hX.size; omega, hT, fun k hk => by have := hA k hk; have := hX.size; omega⟩ hlf (hq hH) hd (fun p hp _ => by cases hp; have := hX.size; simp only; omega) (by omega) (by omega) (by omega) (by omega)) ?_
            rintro _ w9 ⟨rfl, ts1, hTP⟩
            replace hG := hG.keep hTP.chg (fun k hk => hTl k hk)
            have zs10_9 := hTP.chg.size
            have hT1 := hTP.arg
            have hX1 : Chg w _ (foot ts) := (hX.trans hTP.chg).mono (by intro k hk _; simpa using hk)
            have hszA := hTP.chg.size
            have hszX := hX.size
            have ho9 := climb_ok leaf hlf _ q i k (Nat.le_refl _)
            replace hS10 : Chg wd10 _ ((foot ts)) := (hS10.trans hTP.chg).mono (by intro k hk hlt; simp at hk ⊢ <;> first | assumption | omega)
            refine s_nil ⟨.inr hS10, ?_⟩
            refine d_take 10 47 rfl (by kernel_rfl) rfl hS10 (fun wS hS => runs_move rfl) ?_
            refine d_take 11 58 rfl (by kernel_rfl) rfl hS10 (fun wS hS => runs_extract rfl rfl) ?_
            refine d_take 12 59 rfl (by kernel_rfl) rfl hS10 (fun wS hS => runs_extract rfl rfl) ?_
            refine d_only 13 rfl (by kernel_rfl) ?_
            refine s_alloc ty43 rfl rfl ?_
            intro b14 w14 e10_13 z10_13 hb14 X10_13
            have s10_13_hX1 := hX1.size
            replace hG := hG.keep X10_13 (by simp)
            replace hT1 := hT1.keep0 X10_13
            replace hX1 : Chg w _ (foot ts) := (hX1.trans X10_13).mono (by intro k hk hlt; simp at hk ⊢ <;> first | omega | grind)
            replace hS10 : Chg wd10 _ ((foot ts)) := (hS10.trans X10_13).mono (by intro k hk hlt; simp at hk ⊢ <;> first | assumption | omega)
            refine s_nil ⟨.inr hS10, ?_⟩
            refine d_only 14 rfl (by kernel_rfl) ?_
            refine s_storeAll ty43 rfl rfl rfl hb14 (by rw [natsC_length, ho9.1]) rfl (natsC_one _ _) ?_
            intro w15 z10_14 h10_14 X10_14
            replace hG := hG.keep X10_14 (by simp; omega)
            replace hT1 := hT1.keep X10_14 (by intro k hk; obtain rfl : k = b14 := (by simpa using hk); exact fun h => h.elim (fun h => by have := hA _ h; omega) (fun h => by omega))
            replace hX1 : Chg w _ (foot ts) := (hX1.trans X10_14).mono (by intro k hk hlt; simp at hk ⊢ <;> first | omega | grind)
            replace hb14 := h10_14
            replace hS10 : Chg wd10 _ (foot ts) := (hS10.trans X10_14).mono (by intro k hk hlt; simp at hk; rcases hk with hk | rfl; exact hk; omega)
            refine s_nil ⟨.inr hS10, ?_⟩
            refine d_take 15 15 rfl (by kernel_rfl) rfl hS10 (fun wS hS => runs_assign rfl) ?_
            refine d_done (by kernel_rfl) ?_
            replace hb6 := hb6.keep hS10 (fun hm => by have := hA _ (hTf _ hm); omega)
            replace hb10 := hb10.keep hS10 (fun hm => by have := hA _ (hTf _ hm); omega)
            replace hb12 := hb12.keep hS10 (fun hm => by have := hA _ (hTf _ hm); omega)
            have hzS := hS10.size
            have hzX1 := hX1.size
            refine hK21 _ _ ?_
            refine c_seqreg (fun K25 hK25 => ?_)
            refine s_val rfl rfl (runs_move rfl) ?_
            refine s_val rfl rfl (runs_loadAgg ty43 rfl hb14.at (by rw [natsC_length, ho9.1])) ?_
            refine s_val rfl rfl (runs_loadAgg ty43 rfl hb12.at (by rw [natsC_length, hlo.1])) ?_
            refine s_callf (xs := [.tmp 60, .tmp 61, .tmp 62]) rfl rfl Tryd.func29 rfl (by kernel_rfl) rfl (node_calls B _ tv ts1 _ last _ hG (by omega) ho9 hlo hT1 (fun k hk => hk.elim (fun hk => by have := hA k hk; omega) (fun hk => by omega)) (by have := hTP.notes.len; omega)) ?_
            rintro _ w17 ⟨rfl, ts2, hTP2⟩
            replace hb10 := hb10.keep hTP2.chg (fun hm => (hTP.foot _ hm).elim (fun h => by have := hA _ (hTf _ h); omega) (fun h => by omega))
            have zs11_3 := hTP2.chg.size
            have hT2 := hTP2.arg
            have hszB := hTP2.chg.size
            have hX2 : Chg w _ (foot ts) := (hX1.trans hTP2.chg).mono (by intro k hk hlt; rcases List.mem_append.1 hk with hk | hk; exact hk; rcases hTP.foot _ hk with hk | hk; exact hk; omega)
            refine s_val rfl rfl (runs_move rfl) ?_
            refine s_storeAll ty43 rfl rfl rfl hb10 (by rw [natsC_length, (node_ok _ _).1]) rfl (natsC_one _ _) ?_
            intro w18 z11_5 h11_5 X11_5
            replace hT2 := hT2.keep X11_5 (by intro k hk; obtain rfl : k = b10 := (by simpa using hk); exact fun h => h.elim (fun h => h.elim (fun h => by have := hA _ h; omega) (fun h => by omega)) (fun h => by omega))
            replace hX2 : Chg w _ (foot ts) := (hX2.trans X11_5).mono (by intro k hk hlt; simp at hk ⊢ <;> first | omega | grind)
            replace hb10 := h11_5
            refine s_val rfl rfl (runs_assign rfl) ?_
            refine s_nil ?_
            refine hK25 _ _ ?_
            refine c_ret ?_
            refine hret _ _ ?_
            rw [Sp.climb_lo _ _ _ _ _ h2 (by omega), Sp.climbN_lo _ _ _ _ _ h2 (by omega), ← hk]
            have hszC := hX2.size
            have hszD := X11_5.size
            refine ends2 (reads_cell ty43 rfl hb10.at (by rw [natsC_length, (node_ok _ _).1])) (reads_tmp rfl) ⟨rfl, ts2, hT2.mono ?_, hTP.notes.trans hTP2.notes, hX2, ?_⟩
            · exact fun k hk => hk.elim (fun hk => hk.elim (fun hk => .inl hk) (fun hk => .inr (by omega))) (fun hk => .inr (by omega))
            · exact fun k hk => (hTP2.foot k hk).elim (fun hk => (hTP.foot k hk).elim (fun hk => .inl hk) (fun hk => .inr (by omega))) (fun hk => .inr (by omega))
          · refine s_alloc ty43 rfl rfl ?_
            intro b14 w14 e10_13 z10_13 hb14 X10_13
            have s10_13_hX := hX.size
            replace hG := hG.keep X10_13 (by simp)
            replace hT := hT.keep0 X10_13
            replace hH := hH.keep0 X10_13
            replace hX : Chg w _ [] := (hX.trans X10_13).mono (by intro k hk hlt; simp at hk ⊢ <;> first | omega | grind)
            replace hS10 : Chg wd10 _ ((foot ts)) := (hS10.trans X10_13).mono (by intro k hk hlt; simp at hk ⊢ <;> first | assumption | omega)
            refine s_nil ⟨.inr hS10, ?_⟩
            refine d_only 9 rfl (by kernel_rfl) ?_
            refine s_callf (xs := [.tmp 48, .tmp 49, .tmp 50, .tmp 51, .tmp 56]) rfl rfl Tryd.func21 rfl (by kernel_rfl) rfl (ih q (by omega) B A tv ts leaf i k _ _ _ _ ⟨hG, by have := hX.size; omega, hT, fun k hk => by have := hA k hk; have := hX.size; omega⟩ hlf (hq hH) hd (fun p hp _ => by cases hp; have := hX.size; simp only; omega) (by omega) (by omega) (by omega) (by omega)) ?_
            rintro _ w9 ⟨rfl, ts1, hTP⟩
            replace hG := hG.keep hTP.chg (fun k hk => hTl k hk)
            replace hb14 := hb14.keep hTP.chg (fun hm => by have := hA _ (hTf _ hm); omega)
            have zs10_9 := hTP.chg.size
            have hT1 := hTP.arg
            have hX1 : Chg w _ (foot ts) := (hX.trans hTP.chg).mono (by intro k hk _; simpa using hk)
            have hszA := hTP.chg.size
            have hszX := hX.size
            have ho9 := climb_ok leaf hlf _ q i k (Nat.le_refl _)
            replace hS10 : Chg wd10 _ ((foot ts)) := (hS10.trans hTP.chg).mono (by intro k hk hlt; simp at hk ⊢ <;> first | assumption | omega)
            refine s_nil ⟨.inr hS10, ?_⟩
            refine d_take 10 47 rfl (by kernel_rfl) rfl hS10 (fun wS hS => runs_move rfl) ?_
            refine d_take 11 58 rfl (by kernel_rfl) rfl hS10 (fun wS hS => runs_extract rfl rfl) ?_
            refine d_take 12 59 rfl (by kernel_rfl) rfl hS10 (fun wS hS => runs_extract rfl rfl) ?_
            refine d_only 14 rfl (by kernel_rfl) ?_
            refine s_storeAll ty43 rfl rfl rfl hb14 (by rw [natsC_length, ho9.1]) rfl (natsC_one _ _) ?_
            intro w15 z10_14 h10_14 X10_14
            replace hG := hG.keep X10_14 (by simp; omega)
            replace hT1 := hT1.keep X10_14 (by intro k hk; obtain rfl : k = b14 := (by simpa using hk); exact fun h => h.elim (fun h => by have := hA _ h; omega) (fun h => by omega))
            replace hX1 : Chg w _ (foot ts) := (hX1.trans X10_14).mono (by intro k hk hlt; simp at hk ⊢ <;> first | omega | grind)
            replace hb14 := h10_14
            replace hS10 : Chg wd10 _ (foot ts) := (hS10.trans X10_14).mono (by intro k hk hlt; simp at hk; rcases hk with hk | rfl; exact hk; omega)
            refine s_nil ⟨.inr hS10, ?_⟩
            refine d_take 15 15 rfl (by kernel_rfl) rfl hS10 (fun wS hS => runs_assign rfl) ?_
            refine d_done (by kernel_rfl) ?_
            replace hb6 := hb6.keep hS10 (fun hm => by have := hA _ (hTf _ hm); omega)
            replace hb10 := hb10.keep hS10 (fun hm => by have := hA _ (hTf _ hm); omega)
            replace hb12 := hb12.keep hS10 (fun hm => by have := hA _ (hTf _ hm); omega)
            have hzS := hS10.size
            have hzX1 := hX1.size
            refine hK21 _ _ ?_
            refine c_seqreg (fun K31 hK31 => ?_)
            refine s_val rfl rfl (runs_move rfl) ?_
            refine s_val rfl rfl (runs_loadAgg ty43 rfl hb14.at (by rw [natsC_length, ho9.1])) ?_
            refine s_val rfl rfl (runs_loadAgg ty43 rfl hb12.at (by rw [natsC_length, hlo.1])) ?_
            refine s_callf (xs := [.tmp 60, .tmp 61, .tmp 62]) rfl rfl Tryd.func29 rfl (by kernel_rfl) rfl (node_calls B _ tv ts1 _ last _ hG (by omega) ho9 hlo hT1 (fun k hk => hk.elim (fun hk => by have := hA k hk; omega) (fun hk => by omega)) (by have := hTP.notes.len; omega)) ?_
            rintro _ w17 ⟨rfl, ts2, hTP2⟩
            replace hb10 := hb10.keep hTP2.chg (fun hm => (hTP.foot _ hm).elim (fun h => by have := hA _ (hTf _ h); omega) (fun h => by omega))
            have zs11_3 := hTP2.chg.size
            have hT2 := hTP2.arg
            have hszB := hTP2.chg.size
            have hX2 : Chg w _ (foot ts) := (hX1.trans hTP2.chg).mono (by intro k hk hlt; rcases List.mem_append.1 hk with hk | hk; exact hk; rcases hTP.foot _ hk with hk | hk; exact hk; omega)
            refine s_val rfl rfl (runs_move rfl) ?_
            refine s_storeAll ty43 rfl rfl rfl hb10 (by rw [natsC_length, (node_ok _ _).1]) rfl (natsC_one _ _) ?_
            intro w18 z11_5 h11_5 X11_5
            replace hT2 := hT2.keep X11_5 (by intro k hk; obtain rfl : k = b10 := (by simpa using hk); exact fun h => h.elim (fun h => h.elim (fun h => by have := hA _ h; omega) (fun h => by omega)) (fun h => by omega))
            replace hX2 : Chg w _ (foot ts) := (hX2.trans X11_5).mono (by intro k hk hlt; simp at hk ⊢ <;> first | omega | grind)
            replace hb10 := h11_5
            refine s_val rfl rfl (runs_assign rfl) ?_
            refine s_nil ?_
            refine hK31 _ _ ?_
            refine c_ret ?_
            refine hret _ _ ?_
            rw [Sp.climb_lo _ _ _ _ _ h2 (by omega), Sp.climbN_lo _ _ _ _ _ h2 (by omega), ← hk]
            have hszC := hX2.size
            have hszD := X11_5.size
            refine ends2 (reads_cell ty43 rfl hb10.at (by rw [natsC_length, (node_ok _ _).1])) (reads_tmp rfl) ⟨rfl, ts2, hT2.mono ?_, hTP.notes.trans hTP2.notes, hX2, ?_⟩
            · exact fun k hk => hk.elim (fun hk => hk.elim (fun hk => .inl hk) (fun hk => .inr (by omega))) (fun hk => .inr (by omega))
            · exact fun k hk => (hTP2.foot k hk).elim (fun hk => (hTP.foot k hk).elim (fun hk => .inl hk) (fun hk => .inr (by omega))) (fun hk => .inr (by omega))
        · refine c_skip ?_
          refine hK19 _ _ ?_
          refine c_seqdraw [] ((foot ts)) (by kernel_rfl) ?_
          intro K34 hK34 wd12 Xd12 hS12
          replace hG := hG.keep Xd12 (by simp)
          replace hT := hT.keep0 Xd12
          replace hH := hH.keep0 Xd12
          replace hX : Chg w _ [] := (hX.trans Xd12).mono (by intro k hk hlt; simp at hk ⊢ <;> first | omega | grind)
          replace hb6 := hb6.keep Xd12 (by simp)
          replace hb10 := hb10.keep Xd12 (by simp)
          replace hb12 := hb12.keep Xd12 (by simp)
          have zd12 := Xd12.size
          have hzd := Xd12.size
          refine d_take 0 66 rfl (by kernel_rfl) rfl hS12 (fun wS hS => runs_move rfl) ?_
          refine d_take 1 67 rfl (by kernel_rfl) rfl hS12 (fun wS hS => runs_loadAgg ty43 rfl ((hb6.keep hS (fun hm => by have := hA _ (hTf _ hm); omega)).at) (by rw [natsC_length, hlf.1])) ?_
          refine d_take 2 68 rfl (by kernel_rfl) rfl hS12 (fun wS hS => runs_move rfl) ?_
          refine d_take 3 69 rfl (by kernel_rfl) rfl hS12 (fun wS hS => runs_move rfl) ?_
          refine d_take 4 70 rfl (by kernel_rfl) rfl hS12 (fun wS hS => runs_as (v' := .int .i64 ((i - k : Nat) : Int)) (runs_sub64 rfl rfl (by omega)) (congrArg (Value.int .i64) (by omega))) ?_
          refine d_take 5 71 rfl (by kernel_rfl) rfl hS12 (fun wS hS => runs_move rfl) ?_
          refine d_take 6 72 rfl (by kernel_rfl) rfl hS12 (fun wS hS => runs_move rfl) ?_
          refine d_take 7 73 rfl (by kernel_rfl) rfl hS12 (fun wS hS => runs_as (v' := .int .i64 ((n - k : Nat) : Int)) (runs_sub64 rfl rfl (by omega)) (congrArg (Value.int .i64) (by omega))) ?_
          refine d_take 8 74 rfl (by kernel_rfl) rfl hS12 (fun wS hS => runs_move rfl) ?_
          refine d_take 9 75 rfl (by kernel_rfl) rfl hS12 (fun wS hS => runs_move rfl) ?_
          refine d_take 10 76 rfl (by kernel_rfl) rfl hS12 (fun wS hS => runs_len_slice Tryd.underlying51 rfl) ?_
          refine d_take 11 77 rfl (by kernel_rfl) rfl hS12 (fun wS hS => runs_sub64 rfl rfl (by omega)) ?_
          refine d_take 12 78 rfl (by kernel_rfl) rfl hS12 (fun wS hS => runs_slice_to (np - 1) Tryd.underlying51 ty43 rfl rfl (by omega) (by omega)) ?_
          refine d_two 13 17 rfl rfl (by kernel_rfl) ?_ ?_
          · refine s_callf (xs := [.tmp 66, .tmp 67, .tmp 70, .tmp 73, .tmp 78]) rfl rfl Tryd.func21 rfl (by kernel_rfl) rfl (ih q (by omega) B A tv ts leaf (i - k) (n - k) _ _ _ _ ⟨hG, by have := hX.size; omega, hT, fun k hk => by have := hA k hk; have := hX.size; omega⟩ hlf (hq hH) hd (fun p hp _ => by cases hp; have := hX.size; simp only; omega) (by omega) (by omega) (by omega) (by omega)) ?_
            rintro _ w9 ⟨rfl, ts1, hTP⟩
            replace hG := hG.keep hTP.chg (fun k hk => hTl k hk)
            have zs12_13 := hTP.chg.size
            have hT1 := hTP.arg
            have hX1 : Chg w _ (foot ts) := (hX.trans hTP.chg).mono (by intro k hk _; simpa using hk)
            have hszA := hTP.chg.size
            have hszX := hX.size
            have ho9 := climb_ok leaf hlf _ q (i - k) (n - k) (Nat.le_refl _)
            replace hS12 : Chg wd12 _ ((foot ts)) := (hS12.trans hTP.chg).mono (by intro k hk hlt; simp at hk ⊢ <;> first | assumption | omega)
            refine s_nil ⟨.inr hS12, ?_⟩
            refine d_take 14 65 rfl (by kernel_rfl) rfl hS12 (fun wS hS => runs_move rfl) ?_
            refine d_take 15 80 rfl (by kernel_rfl) rfl hS12 (fun wS hS => runs_extract rfl rfl) ?_
            refine d_take 16 81 rfl (by kernel_rfl) rfl hS12 (fun wS hS => runs_extract rfl rfl) ?_
            refine d_only 17 rfl (by kernel_rfl) ?_
            refine s_alloc ty43 rfl rfl ?_
            intro b18 w14 e12_17 z12_17 hb18 X12_17
            have s12_17_hX1 := hX1.size
            replace hG := hG.keep X12_17 (by simp)
            replace hT1 := hT1.keep0 X12_17
            replace hX1 : Chg w _ (foot ts) := (hX1.trans X12_17).mono (by intro k hk hlt; simp at hk ⊢ <;> first | omega | grind)
            replace hS12 : Chg wd12 _ ((foot ts)) := (hS12.trans X12_17).mono (by intro k hk hlt; simp at hk ⊢ <;> first | assumption | omega)
            refine s_nil ⟨.inr hS12, ?_⟩
            refine d_only 18 rfl (by kernel_rfl) ?_
            refine s_storeAll ty43 rfl rfl rfl hb18 (by rw [natsC_length, ho9.1]) rfl (natsC_one _ _) ?_
            intro w15 z12_18 h12_18 X12_18
            replace hG := hG.keep X12_18 (by simp; omega)
            replace hT1 := hT1.keep X12_18 (by intro k hk; obtain rfl : k = b18 := (by simpa using hk); exact fun h => h.elim (fun h => by have := hA _ h; omega) (fun h => by omega))
            replace hX1 : Chg w _ (foot ts) := (hX1.trans X12_18).mono (by intro k hk hlt; simp at hk ⊢ <;> first | omega | grind)
            replace hb18 := h12_18
            replace hS12 : Chg wd12 _ (foot ts) := (hS12.trans X12_18).mono (by intro k hk hlt; simp at hk; rcases hk with hk | rfl; exact hk; omega)
            refine s_nil ⟨.inr hS12, ?_⟩
            refine d_take 19 17 rfl (by kernel_rfl) rfl hS12 (fun wS hS => runs_assign rfl) ?_
            refine d_done (by kernel_rfl) ?_
            replace hb6 := hb6.keep hS12 (fun hm => by have := hA _ (hTf _ hm); omega)
            replace hb10 := hb10.keep hS12 (fun hm => by have := hA _ (hTf _ hm); omega)
            replace hb12 := hb12.keep hS12 (fun hm => by have := hA _ (hTf _ hm); omega)
            have hzS := hS12.size
            have hzX1 := hX1.size
            refine hK34 _ _ ?_
            refine c_seqreg (fun K38 hK38 => ?_)
            refine s_val rfl rfl (runs_move rfl) ?_
            refine s_val rfl rfl (runs_loadAgg ty43 rfl hb12.at (by rw [natsC_length, hlo.1])) ?_
            refine s_val rfl rfl (runs_loadAgg ty43 rfl hb18.at (by rw [natsC_length, ho9.1])) ?_
            refine s_callf (xs := [.tmp 82, .tmp 83, .tmp 84]) rfl rfl Tryd.func29 rfl (by kernel_rfl) rfl (node_calls B _ tv ts1 last _ _ hG (by omega) hlo ho9 hT1 (fun k hk => hk.elim (fun hk => by have := hA k hk; omega) (fun hk => by omega)) (by have := hTP.notes.len; omega)) ?_
            rintro _ w17 ⟨rfl, ts2, hTP2⟩
            replace hb10 := hb10.keep hTP2.chg (fun hm => (hTP.foot _ hm).elim (fun h => by have := hA _ (hTf _ h); omega) (fun h => by omega))
            have zs13_3 := hTP2.chg.size
            have hT2 := hTP2.arg
            have hszB := hTP2.chg.size
            have hX2 : Chg w _ (foot ts) := (hX1.trans hTP2.chg).mono (by intro k hk hlt; rcases List.mem_append.1 hk with hk | hk; exact hk; rcases hTP.foot _ hk with hk | hk; exact hk; omega)
            refine s_val rfl rfl (runs_move rfl) ?_
            refine s_storeAll ty43 rfl rfl rfl hb10 (by rw [natsC_length, (node_ok _ _).1]) rfl (natsC_one _ _) ?_
            intro w18 z13_5 h13_5 X13_5
            replace hT2 := hT2.keep X13_5 (by intro k hk; obtain rfl : k = b10 := (by simpa using hk); exact fun h => h.elim (fun h => h.elim (fun h => by have := hA _ h; omega) (fun h => by omega)) (fun h => by omega))
            replace hX2 : Chg w _ (foot ts) := (hX2.trans X13_5).mono (by intro k hk hlt; simp at hk ⊢ <;> first | omega | grind)
            replace hb10 := h13_5
            refine s_val rfl rfl (runs_assign rfl) ?_
            refine s_nil ?_
            refine hK38 _ _ ?_
            refine c_ret ?_
            refine hret _ _ ?_
            rw [Sp.climb_hi _ _ _ _ _ h2 (by omega), Sp.climbN_hi _ _ _ _ _ h2 (by omega), ← hk]
            have hszC := hX2.size
            have hszD := X13_5.size
            refine ends2 (reads_cell ty43 rfl hb10.at (by rw [natsC_length, (node_ok _ _).1])) (reads_tmp rfl) ⟨rfl, ts2, hT2.mono ?_, hTP.notes.trans hTP2.notes, hX2, ?_⟩
            · exact fun k hk => hk.elim (fun hk => hk.elim (fun hk => .inl hk) (fun hk => .inr (by omega))) (fun hk => .inr (by omega))
            · exact fun k hk => (hTP2.foot k hk).elim (fun hk => (hTP.foot k hk).elim (fun hk => .inl hk) (fun hk => .inr (by omega))) (fun hk => .inr (by omega))
          · refine s_alloc ty43 rfl rfl ?_
            intro b18 w14 e12_17 z12_17 hb18 X12_17
            have s12_17_hX := hX.size
            replace hG := hG.keep X12_17 (by simp)
            replace hT := hT.keep0 X12_17
            replace hH := hH.keep0 X12_17
            replace hX : Chg w _ [] := (hX.trans X12_17).mono (by intro k hk hlt; simp at hk ⊢ <;> first | omega | grind)
            replace hS12 : Chg wd12 _ ((foot ts)) := (hS12.trans X12_17).mono (by intro k hk hlt; simp at hk ⊢ <;> first | assumption | omega)
            refine s_nil ⟨.inr hS12, ?_⟩
            refine d_only 13 rfl (by kernel_rfl) ?_
            refine s_callf (xs := [.tmp 66, .tmp 67, .tmp 70, .tmp 73, .tmp 78]) rfl rfl Tryd.func21 rfl (by kernel_rfl) rfl (ih q (by omega) B A tv ts leaf (i - k) (n - k) _ _ _ _ ⟨hG, by have := hX.size; omega, hT, fun k hk => by have := hA k hk; have := hX.size; omega⟩ hlf (hq hH) hd (fun p hp _ => by cases hp; have := hX.size; simp only; omega) (by omega) (by omega) (by omega) (by omega)) ?_
            rintro _ w9 ⟨rfl, ts1, hTP⟩
            replace hG := hG.keep hTP.chg (fun k hk => hTl k hk)
            replace hb18 := hb18.keep hTP.chg (fun hm => by have := hA _ (hTf _ hm); omega)
            have zs12_13 := hTP.chg.size
            have hT1 := hTP.arg
            have hX1 : Chg w _ (foot ts) := (hX.trans hTP.chg).mono (by intro k hk _; simpa using hk)
            have hszA := hTP.chg.size
            have hszX := hX.size
            have ho9 := climb_ok leaf hlf _ q (i - k) (n - k) (Nat.le_refl _)
            replace hS12 : Chg wd12 _ ((foot ts)) := (hS12.trans hTP.chg).mono (by intro k hk hlt; simp at hk ⊢ <;> first | assumption | omega)
            refine s_nil ⟨.inr hS12, ?_⟩
            refine d_take 14 65 rfl (by kernel_rfl) rfl hS12 (fun wS hS => runs_move rfl) ?_
            refine d_take 15 80 rfl (by kernel_rfl) rfl hS12 (fun wS hS => runs_extract rfl rfl) ?_
            refine d_take 16 81 rfl (by kernel_rfl) rfl hS12 (fun wS hS => runs_extract rfl rfl) ?_
            refine d_only 18 rfl (by kernel_rfl) ?_
            refine s_storeAll ty43 rfl rfl rfl hb18 (by rw [natsC_length, ho9.1]) rfl (natsC_one _ _) ?_
            intro w15 z12_18 h12_18 X12_18
            replace hG := hG.keep X12_18 (by simp; omega)
            replace hT1 := hT1.keep X12_18 (by intro k hk; obtain rfl : k = b18 := (by simpa using hk); exact fun h => h.elim (fun h => by have := hA _ h; omega) (fun h => by omega))
            replace hX1 : Chg w _ (foot ts) := (hX1.trans X12_18).mono (by intro k hk hlt; simp at hk ⊢ <;> first | omega | grind)
            replace hb18 := h12_18
            replace hS12 : Chg wd12 _ (foot ts) := (hS12.trans X12_18).mono (by intro k hk hlt; simp at hk; rcases hk with hk | rfl; exact hk; omega)
            refine s_nil ⟨.inr hS12, ?_⟩
            refine d_take 19 17 rfl (by kernel_rfl) rfl hS12 (fun wS hS => runs_assign rfl) ?_
            refine d_done (by kernel_rfl) ?_
            replace hb6 := hb6.keep hS12 (fun hm => by have := hA _ (hTf _ hm); omega)
            replace hb10 := hb10.keep hS12 (fun hm => by have := hA _ (hTf _ hm); omega)
            replace hb12 := hb12.keep hS12 (fun hm => by have := hA _ (hTf _ hm); omega)
            have hzS := hS12.size
            have hzX1 := hX1.size
            refine hK34 _ _ ?_
            refine c_seqreg (fun K44 hK44 => ?_)
            refine s_val rfl rfl (runs_move rfl) ?_
            refine s_val rfl rfl (runs_loadAgg ty43 rfl hb12.at (by rw [natsC_length, hlo.1])) ?_
            refine s_val rfl rfl (runs_loadAgg ty43 rfl hb18.at (by rw [natsC_length, ho9.1])) ?_
            refine s_callf (xs := [.tmp 82, .tmp 83, .tmp 84]) rfl rfl Tryd.func29 rfl (by kernel_rfl) rfl (node_calls B _ tv ts1 last _ _ hG (by omega) hlo ho9 hT1 (fun k hk => hk.elim (fun hk => by have := hA k hk; omega) (fun hk => by omega)) (by have := hTP.notes.len; omega)) ?_
            rintro _ w17 ⟨rfl, ts2, hTP2⟩
            replace hb10 := hb10.keep hTP2.chg (fun hm => (hTP.foot _ hm).elim (fun h => by have := hA _ (hTf _ h); omega) (fun h => by omega))
            have zs13_3 := hTP2.chg.size
            have hT2 := hTP2.arg
            have hszB := hTP2.chg.size
            have hX2 : Chg w _ (foot ts) := (hX1.trans hTP2.chg).mono (by intro k hk hlt; rcases List.mem_append.1 hk with hk | hk; exact hk; rcases hTP.foot _ hk with hk | hk; exact hk; omega)
            refine s_val rfl rfl (runs_move rfl) ?_
            refine s_storeAll ty43 rfl rfl rfl hb10 (by rw [natsC_length, (node_ok _ _).1]) rfl (natsC_one _ _) ?_
            intro w18 z13_5 h13_5 X13_5
            replace hT2 := hT2.keep X13_5 (by intro k hk; obtain rfl : k = b10 := (by simpa using hk); exact fun h => h.elim (fun h => h.elim (fun h => by have := hA _ h; omega) (fun h => by omega)) (fun h => by omega))
            replace hX2 : Chg w _ (foot ts) := (hX2.trans X13_5).mono (by intro k hk hlt; simp at hk ⊢ <;> first | omega | grind)
            replace hb10 := h13_5
            refine s_val rfl rfl (runs_assign rfl) ?_
            refine s_nil ?_
            refine hK44 _ _ ?_
            refine c_ret ?_
            refine hret _ _ ?_
            rw [Sp.climb_hi _ _ _ _ _ h2 (by omega), Sp.climbN_hi _ _ _ _ _ h2 (by omega), ← hk]
            have hszC := hX2.size
            have hszD := X13_5.size
            refine ends2 (reads_cell ty43 rfl hb10.at (by rw [natsC_length, (node_ok _ _).1])) (reads_tmp rfl) ⟨rfl, ts2, hT2.mono ?_, hTP.notes.trans hTP2.notes, hX2, ?_⟩
            · exact fun k hk => hk.elim (fun hk => hk.elim (fun hk => .inl hk) (fun hk => .inr (by omega))) (fun hk => .inr (by omega))
            · exact fun k hk => (hTP2.foot k hk).elim (fun hk => (hTP.foot k hk).elim (fun hk => .inl hk) (fun hk => .inr (by omega))) (fun hk => .inr (by omega))

theorem path_ok : ∀ (m : Nat) (l : List (List Nat)) (i : Nat), l.length ≤ m → (∀ x ∈ l, HOk x) → ∀ x ∈ Sp.path l i, HOk x := by
  intro m
  induction m with
  | zero => intro l i h _ x hx; rw [Sp.path_out l i (by omega)] at hx; simp at hx
  | succ m ih =>
    intro l i h hok x hx
    by_cases h0 : l.length ≤ i
    · rw [Sp.path_out l i h0] at hx; simp at hx
    by_cases h1 : l.length ≤ 1
    · match l, h1 with
      | [], _ => rw [Sp.path_out _ _ (by simp)] at hx; simp at hx
      | [y], _ => rw [Sp.path_one] at hx; simp at hx
    have hk0 := Sp.split_pos l.length
    have hk1 := Sp.split_lt (n := l.length) (by omega)
    have o1 : ∀ x ∈ l.take (Sp.split l.length), HOk x := fun x hx => hok x (List.mem_of_mem_take hx)
    have o2 : ∀ x ∈ l.drop (Sp.split l.length), HOk x := fun x hx => hok x (List.mem_of_mem_drop hx)
    by_cases hi : i < Sp.split l.length
    · rw [Sp.path_lo l i (by omega) hi] at hx
      rcases List.mem_append.1 hx with hx | hx
      · exact ih _ _ (by rw [List.length_take]; omega) o1 x hx
      · simp at hx; subst hx; exact root_ok _ _ (Nat.le_refl _) o2
    · rw [Sp.path_hi l i (by omega) (by omega) (by omega)] at hx
      rcases List.mem_append.1 hx with hx | hx
      · exact ih _ _ (by rw [List.length_drop]; omega) o2 x hx
      · simp at hx; subst hx; exact root_ok _ _ (Nat.le_refl _) o1

theorem climb_bad (tv : Value) (leaf : List Nat) (i : Int) (n : Nat) (a : Option Addr) (np cp : Nat) (w : World) (h : i < 0 ∨ (n : Int) ≤ i) :
    CallsR Tryd.prog 21 #[tv, hv leaf, .int .i64 i, .int .i64 (n : Int), .slice a np cp] w fun v w' => v = .tuple #[hv Sp.zero32, .bool false] ∧ Chg w w' [] := by
  have hX : Chg w w [] := Chg.refl _ _
  refine f_enter (l := [tv, hv leaf, .int .i64 i, .int .i64 (n : Int), .slice a np cp]) Tryd.func21 rfl rfl rfl rfl ?_
  rcases Decidable.em (i < 0) with hi | hi
  · skip
    intro Qf hnrm hret
    refine c_seqreg (fun K1 hK1 => ?_)
    refine s_box rfl rfl rfl ?_
    intro b6 w1 e0_0 z0_0 hb6 X0_0
    have s0_0_hX := hX.size
    replace hX : Chg w _ [] := (hX.trans X0_0).mono (by intro k hk hlt; simp at hk ⊢ <;> first | omega | grind)
    replace hb6 : Blk w1 b6 (natsC .u8 leaf) 43 := hb6
    refine s_alloc ty43 rfl rfl ?_
    intro b10 w2 e0_1 z0_1 hb10 X0_1
    have s0_1_hX := hX.size
    have s0_1_hb6 := hb6.lt
    replace hX : Chg w _ [] := (hX.trans X0_1).mono (by intro k hk hlt; simp at hk ⊢ <;> first | omega | grind)
    replace hb6 := hb6.keep X0_1 (by simp)
    refine s_val rfl rfl (runs_assign rfl) ?_
    refine s_nil ?_
    refine hK1 _ _ ?_
    refine c_seq (fun K4 hK4 => ?_)
    refine c_seqreg (fun K5 hK5 => ?_)
    refine s_val rfl rfl (runs_move rfl) ?_
    refine s_val rfl rfl (runs_dt (runs_lt rfl rfl) hi) ?_
    refine s_val rfl rfl (runs_move rfl) ?_
    refine s_skip rfl rfl ?_
    refine s_skip rfl rfl ?_
    refine s_skip rfl rfl ?_
    refine s_val rfl rfl (runs_pickt rfl rfl) ?_
    refine s_nil ?_
    refine hK5 _ _ ?_
    refine c_true rfl ?_
    refine c_seqreg (fun K6 hK6 => ?_)
    refine s_val rfl rfl (runs_build_zero Tryd.underlying43 ty5 ty43 rfl) ?_
    refine s_storeAll ty43 rfl rfl rfl hb10 (by simp) rfl (by simp [Value.oneCell']) ?_
    intro w3 z2_1 h2_1 X2_1
    replace hX : Chg w _ [] := (hX.trans X2_1).mono (by intro k hk hlt; simp at hk ⊢ <;> first | omega | grind)
    replace hb10 := h2_1
    refine s_val rfl rfl (runs_assign rfl) ?_
    refine s_nil ?_
    refine hK6 _ _ ?_
    refine c_ret ?_
    refine hret _ _ ?_
    exact ends2 (reads_cell ty43 rfl hb10.at (by simp)) (reads_tmp rfl) ⟨by simp [hv, zero_cells], hX⟩
  · skip
    intro Qf hnrm hret
    refine c_seqreg (fun K1 hK1 => ?_)
    refine s_box rfl rfl rfl ?_
    intro b6 w1 e0_0 z0_0 hb6 X0_0
    have s0_0_hX := hX.size
    replace hX : Chg w _ [] := (hX.trans X0_0).mono (by intro k hk hlt; simp at hk ⊢ <;> first | omega | grind)
    replace hb6 : Blk w1 b6 (natsC .u8 leaf) 43 := hb6
    refine s_alloc ty43 rfl rfl ?_
    intro b10 w2 e0_1 z0_1 hb10 X0_1
    have s0_1_hX := hX.size
    have s0_1_hb6 := hb6.lt
    replace hX : Chg w _ [] := (hX.trans X0_1).mono (by intro k hk hlt; simp at hk ⊢ <;> first | omega | grind)
    replace hb6 := hb6.keep X0_1 (by simp)
    refine s_val rfl rfl (runs_assign rfl) ?_
    refine s_nil ?_
    refine hK1 _ _ ?_
    refine c_seq (fun K4 hK4 => ?_)
    refine c_seqreg (fun K5 hK5 => ?_)
    refine s_val rfl rfl (runs_move rfl) ?_
    refine s_val rfl rfl (runs_df (runs_lt rfl rfl) hi) ?_
    refine s_val rfl rfl (runs_move rfl) ?_
    refine s_val rfl rfl (runs_move rfl) ?_
    refine s_val rfl rfl (runs_move rfl) ?_
    refine s_val rfl rfl (runs_dt (runs_ge rfl rfl) (by omega)) ?_
    refine s_val rfl rfl (runs_pickf rfl rfl) ?_
    refine s_nil ?_
    refine hK5 _ _ ?_
    refine c_true rfl ?_
    refine c_seqreg (fun K6 hK6 => ?_)
    refine s_val rfl rfl (runs_build_zero Tryd.underlying43 ty5 ty43 rfl) ?_
    refine s_storeAll ty43 rfl rfl rfl hb10 (by simp) rfl (by simp [Value.oneCell']) ?_
    intro w3 z2_1 h2_1 X2_1
    replace hX : Chg w _ [] := (hX.trans X2_1).mono (by intro k hk hlt; simp at hk ⊢ <;> first | omega | grind)
    replace hb10 := h2_1
    refine s_val rfl rfl (runs_assign rfl) ?_
    refine s_nil ?_
    refine hK6 _ _ ?_
    refine c_ret ?_
    refine hret _ _ ?_
    exact ends2 (reads_cell ty43 rfl hb10.at (by simp)) (reads_tmp rfl) ⟨by simp [hv, zero_cells], hX⟩
end Go.Proofs.YtlkeofjgmegcfaaDoor
