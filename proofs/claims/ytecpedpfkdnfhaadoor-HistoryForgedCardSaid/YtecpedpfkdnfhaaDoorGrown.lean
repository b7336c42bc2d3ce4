/- Part Grown of the proofs on this seat. Conditions: none beyond those in the theorems. By an AI agent. -/
import Derived.Test.YtecpedpfkdnfhaaDoorLaw1
namespace Go.Proofs.YtecpedpfkdnfhaaDoor
open Go Go.RowKit

set_option maxHeartbeats 4000000 in
theorem both_calls (k : Nat) : ∀ (path : List (List Nat)), path.length < k → ∀ (B lo hi : Nat) (l : List Nat) (tv : Value) (ts : TS) (old : List Nat) (m n : Nat) (whole : Bool) (a : Option Addr) (np cp : Nat) (w : World), TG w B lo hi l tv ts → GH B w → B ≤ w.heap.size → lo ≤ w.heap.size →
    (∀ x ∈ l, x < w.heap.size) → HOk old → HsR w a np cp path → (∀ p, a = some p → 0 < np → p.block < w.heap.size) → n ≤ 1048576 → np ≤ 1048576 → 0 < m → m ≤ n → ts.len + 2 * np ≤ 1073741824 →
    CallsR Tryd.prog 30 #[tv, .int .i64 (m : Int), .int .i64 (n : Int), .bool whole, hv old, .slice a np cp] w fun v w' =>
      v = .tuple #[hv (Sp.both old path m n whole).1, hv (Sp.both old path m n whole).2.1, .bool (Sp.both old path m n whole).2.2] ∧ ∃ ts', TP w w' B lo l tv ts ts' (Sp.bothN old path m n whole) := by
  induction k with
  | zero => intro path h; omega
  | succ k ih =>
    intro path hm B lo hi l tv ts old m n whole a np cp w hT0 hG hBw hlo hl ho hH hlb hn hnp hm0 hmn htl
    have hlen := hH.len
    have hX : Chg w w (foot ts) := Chg.refl _ _
    have hT := hT0
    have htop := hT0.top
    have hft := hT0.foot
    refine f_enter (l := [tv, .int .i64 (m : Int), .int .i64 (n : Int), .bool whole, hv old, .slice a np cp]) Tryd.func30 rfl rfl rfl rfl ?_
    intro Qf hnrm hret
    refine c_seqreg (fun K1 hK1 => ?_)
    refine s_box rfl rfl rfl ?_
    intro b10 w01 e0_0 z0_0 hb10 X0_0
    have s0_0_hX := hX.size
    replace hG := hG.keep X0_0 (by simp)
    replace hT := hT.keep X0_0 (by simp)
    replace hH := hH.keep0 X0_0
    replace hX : Chg w _ (foot ts) := (hX.trans X0_0).mono (by intro k hk hlt; simp at hk ⊢ <;> first | omega | grind)
    replace hb10 : Blk w01 b10 (natsC .u8 old) 28 := hb10
    refine s_alloc ty28 rfl rfl ?_
    intro b12 w02 e0_1 z0_1 hb12 X0_1
    have s0_1_hX := hX.size
    have s0_1_hb10 := hb10.lt
    replace hG := hG.keep X0_1 (by simp)
    replace hT := hT.keep X0_1 (by simp)
    replace hH := hH.keep0 X0_1
    replace hX : Chg w _ (foot ts) := (hX.trans X0_1).mono (by intro k hk hlt; simp at hk ⊢ <;> first | omega | grind)
    replace hb10 := hb10.keep X0_1 (by simp)
    refine s_alloc ty28 rfl rfl ?_
    intro b13 w03 e0_2 z0_2 hb13 X0_2
    have s0_2_hX := hX.size
    have s0_2_hb10 := hb10.lt
    have s0_2_hb12 := hb12.lt
    replace hG := hG.keep X0_2 (by simp)
    replace hT := hT.keep X0_2 (by simp)
    replace hH := hH.keep0 X0_2
    replace hX : Chg w _ (foot ts) := (hX.trans X0_2).mono (by intro k hk hlt; simp at hk ⊢ <;> first | omega | grind)
    replace hb10 := hb10.keep X0_2 (by simp)
    replace hb12 := hb12.keep X0_2 (by simp)
    refine s_val rfl rfl (runs_assign rfl) ?_
    refine s_nil ?_
    have hl10 := hb10.lt
    have hl12 := hb12.lt
    have hl13 := hb13.lt
    have hzX0 := hX.size
    refine hK1 _ _ ?_
    refine c_seq (fun K5 hK5 => ?_)
    rcases (show (m = n ∧ whole = true) ∨ (m = n ∧ whole = false) ∨ m ≠ n by cases whole <;> simp <;> omega) with ⟨hmn, rfl⟩ | ⟨hmn, rfl⟩ | hmn
    · refine c_seqreg (fun K6 hK6 => ?_)
      refine s_val rfl rfl (runs_move rfl) ?_
      refine s_val rfl rfl (runs_move rfl) ?_
      refine s_val rfl rfl (runs_dt (runs_eqd rfl rfl) (by omega)) ?_
      refine s_val rfl rfl (runs_move rfl) ?_
      refine s_val rfl rfl (runs_move rfl) ?_
      refine s_val rfl rfl (runs_pickt rfl rfl) ?_
      refine s_nil ?_
      refine hK6 _ _ ?_
      refine c_true rfl ?_
      refine c_seqdraw [] ([b12, b13]) (by kernel_rfl) ?_
      intro K7 hK7 wd2 Xd2 hS2
      replace hG := hG.keep Xd2 (by simp)
      replace hT := hT.keep Xd2 (by simp)
      replace hH := hH.keep0 Xd2
      replace hX : Chg w _ (foot ts) := (hX.trans Xd2).mono (by intro k hk hlt; simp at hk ⊢ <;> first | omega | grind)
      replace hb10 := hb10.keep Xd2 (by simp)
      replace hb12 := hb12.keep Xd2 (by simp)
      replace hb13 := hb13.keep Xd2 (by simp)
      have zd2 := Xd2.size
      refine d_take 0 30 rfl (by kernel_rfl) rfl hS2 (fun wS hS => runs_loadAgg ty28 rfl ((hb10.keep hS (by simp; omega)).at) (by rw [natsC_length, ho.1])) ?_
      refine d_take 1 31 rfl (by kernel_rfl) rfl hS2 (fun wS hS => runs_loadAgg ty28 rfl ((hb10.keep hS (by simp; omega)).at) (by rw [natsC_length, ho.1])) ?_
      refine d_take 2 32 rfl (by kernel_rfl) rfl hS2 (fun wS hS => runs_move rfl) ?_
      refine d_take 3 33 rfl (by kernel_rfl) rfl hS2 (fun wS hS => runs_len_slice Tryd.underlying25 rfl) ?_
      refine d_take 4 34 rfl (by kernel_rfl) rfl hS2 (fun wS hS => runs_eqd rfl rfl) ?_
      refine d_only 5 rfl (by kernel_rfl) ?_
      refine s_storeAll ty28 rfl rfl rfl hb12 (by rw [natsC_length, ho.1]) rfl (natsC_one _ _) ?_
      intro w25 z2_5 h2_5 X2_5
      replace hG := hG.keep X2_5 (by simp; omega)
      replace hT := hT.keep X2_5 (by simp [Rg] <;> omega)
      replace hX : Chg w _ (foot ts) := (hX.trans X2_5).mono (by intro k hk hlt; simp at hk ⊢ <;> first | omega | grind)
      replace hb13 := hb13.keep X2_5 (by simp; omega)
      replace hb12 := h2_5
      replace hS2 : Chg wd2 _ ([b12, b13]) := (hS2.trans X2_5).mono (by intro k hk hlt; simp at hk ⊢ <;> first | assumption | omega)
      refine s_nil ⟨.inr hS2, ?_⟩
      refine d_only 6 rfl (by kernel_rfl) ?_
      refine s_storeAll ty28 rfl rfl rfl hb13 (by rw [natsC_length, ho.1]) rfl (natsC_one _ _) ?_
      intro w26 z2_6 h2_6 X2_6
      replace hG := hG.keep X2_6 (by simp; omega)
      replace hT := hT.keep X2_6 (by simp [Rg] <;> omega)
      replace hX : Chg w _ (foot ts) := (hX.trans X2_6).mono (by intro k hk hlt; simp at hk ⊢ <;> first | omega | grind)
      replace hb12 := hb12.keep X2_6 (by simp; omega)
      replace hb13 := h2_6
      replace hS2 : Chg wd2 _ ([b12, b13]) := (hS2.trans X2_6).mono (by intro k hk hlt; simp at hk ⊢ <;> first | assumption | omega)
      refine s_nil ⟨.inr hS2, ?_⟩
      refine d_take 7 14 rfl (by kernel_rfl) rfl hS2 (fun wS hS => runs_assign rfl) ?_
      refine d_done (by kernel_rfl) ?_
      replace hb10 := hb10.keep hS2 (by simp; omega)
      refine hK7 _ _ ?_
      refine c_ret ?_
      refine hret _ _ ?_
      subst hmn
      rw [Sp.both_whole, Sp.bothN_whole]
      have he : decide ((np : Int) = 0) = path.isEmpty := by
        rw [← hlen]; cases path <;> simp <;> omega
      refine ends3 (reads_cell ty28 rfl hb12.at (by rw [natsC_length, ho.1])) (reads_cell ty28 rfl hb13.at (by rw [natsC_length, ho.1])) (reads_tmp rfl) ⟨by rw [he], ts, ⟨hT.set l (fun x hx => .inl hx), Notes.nil, hX, fun k hk => .inl hk⟩⟩
    · refine c_seqreg (fun K6 hK6 => ?_)
      refine s_val rfl rfl (runs_move rfl) ?_
      refine s_val rfl rfl (runs_move rfl) ?_
      refine s_val rfl rfl (runs_dt (runs_eqd rfl rfl) (by omega)) ?_
      refine s_val rfl rfl (runs_move rfl) ?_
      refine s_val rfl rfl (runs_move rfl) ?_
      refine s_val rfl rfl (runs_pickt rfl rfl) ?_
      refine s_nil ?_
      refine hK6 _ _ ?_
      refine c_false rfl ?_
      refine c_skip ?_
      refine hK5 _ _ ?_
      refine c_seq (fun K10 hK10 => ?_)
      refine c_seqreg (fun K11 hK11 => ?_)
      refine s_val rfl rfl (runs_move rfl) ?_
      refine s_val rfl rfl (runs_len_slice Tryd.underlying25 rfl) ?_
      refine s_val rfl rfl (runs_eqd rfl rfl) ?_
      refine s_nil ?_
      refine hK11 _ _ ?_
      refine c_dec rfl (fun hp0 => ?_) (fun hp0 => ?_)
      · obtain rfl : path = [] := List.eq_nil_of_length_eq_zero (by omega)
        refine c_seqreg (fun K12 hK12 => ?_)
        refine s_val rfl rfl (runs_build_zero Tryd.underlying28 ty5 ty28 rfl) ?_
        refine s_val rfl rfl (runs_build_zero Tryd.underlying28 ty5 ty28 rfl) ?_
        refine s_storeAll ty28 rfl rfl rfl hb12 (by simp) rfl (by simp [Value.oneCell']) ?_
        intro w42 z4_2 h4_2 X4_2
        replace hG := hG.keep X4_2 (by simp; omega)
        replace hT := hT.keep X4_2 (by simp [Rg] <;> omega)
        replace hX : Chg w _ (foot ts) := (hX.trans X4_2).mono (by intro k hk hlt; simp at hk ⊢ <;> first | omega | grind)
        replace hb10 := hb10.keep X4_2 (by simp; omega)
        replace hb13 := hb13.keep X4_2 (by simp; omega)
        replace hb12 := h4_2
        refine s_storeAll ty28 rfl rfl rfl hb13 (by simp) rfl (by simp [Value.oneCell']) ?_
        intro w43 z4_3 h4_3 X4_3
        replace hG := hG.keep X4_3 (by simp; omega)
        replace hT := hT.keep X4_3 (by simp [Rg] <;> omega)
        replace hX : Chg w _ (foot ts) := (hX.trans X4_3).mono (by intro k hk hlt; simp at hk ⊢ <;> first | omega | grind)
        replace hb10 := hb10.keep X4_3 (by simp; omega)
        replace hb12 := hb12.keep X4_3 (by simp; omega)
        replace hb13 := h4_3
        refine s_val rfl rfl (runs_assign rfl) ?_
        refine s_nil ?_
        refine hK12 _ _ ?_
        refine c_ret ?_
        refine hret _ _ ?_
        rw [Sp.both_nil _ _ _ _ (by first | exact fun h => hmn h.1 | simp), Sp.bothN_nil]
        refine ends3 (reads_cell ty28 rfl hb12.at (by simp)) (reads_cell ty28 rfl hb13.at (by simp)) (reads_tmp rfl) ⟨by simp [hv, zero_cells], ts, ⟨hT.set l (fun x hx => .inl hx), Notes.nil, hX, fun k hk => .inl hk⟩⟩
      · obtain ⟨bp, op, rfl⟩ := hH.rd.some_ (by omega)
        have hbp := hlb _ rfl (by omega)
        simp only at hbp
        obtain ⟨q, last, rfl⟩ : ∃ q last, path = q ++ [last] := by
          rcases List.eq_nil_or_concat path with rfl | ⟨q, x, rfl⟩
          · simp at hlen; omega
          · exact ⟨q, x, List.concat_eq_append⟩
        rw [List.length_append, List.length_singleton] at hlen hm
        have hlast : (q ++ [last])[np - 1]? = some last := by rw [show np - 1 = q.length by omega]; simp
        have okl := hH.ok last (by simp)
        have okq : ∀ x ∈ q, HOk x := fun x hx => hH.ok x (by simp [hx])
        have hq : ∀ {w : World}, HsR w (some ⟨bp, op, none⟩) np cp (q ++ [last]) → HsR w (some ⟨bp, op, none⟩) (np - 1) cp q := fun h => by
          have := h.to_ (np - 1) (by omega)
          rwa [show (q ++ [last]).take (np - 1) = q by rw [show np - 1 = q.length by omega]; simp] at this
        have hcn := hH.rd.le
        refine c_skip ?_
        refine hK10 _ _ ?_
        refine c_seqdraw [12, 13] ([]) (by kernel_rfl) ?_
        intro K15 hK15 wd5 Xd5 hS5
        replace hG := hG.keep Xd5 (by simp)
        replace hT := hT.keep Xd5 (by simp)
        replace hH := hH.keep0 Xd5
        replace hX : Chg w _ (foot ts) := (hX.trans Xd5).mono (by intro k hk hlt; simp at hk ⊢ <;> first | omega | grind)
        replace hb10 := hb10.keep Xd5 (by simp)
        replace hb12 := hb12.keep Xd5 (by simp)
        replace hb13 := hb13.keep Xd5 (by simp)
        have zd5 := Xd5.size
        refine d_take 0 40 rfl (by kernel_rfl) rfl hS5 (fun wS hS => runs_move rfl) ?_
        refine d_take 1 41 rfl (by kernel_rfl) rfl hS5 (fun wS hS => runs_move rfl) ?_
        refine d_take 2 42 rfl (by kernel_rfl) rfl hS5 (fun wS hS => runs_len_slice Tryd.underlying25 rfl) ?_
        refine d_take 3 43 rfl (by kernel_rfl) rfl hS5 (fun wS hS => runs_sub64 rfl rfl (by omega)) ?_
        refine d_take 4 44 rfl (by kernel_rfl) rfl hS5 (fun wS hS => runs_index_slice (np - 1) Tryd.underlying25 ty28 rfl rfl (by omega) (by omega)) ?_
        refine d_take 5 45 rfl (by kernel_rfl) rfl hS5 (fun wS hS => runs_loadAgg ty28 rfl ((hH.keep0 hS).elem hlast) (by rw [natsC_length, okl.1])) ?_
        refine d_pure 6 46 rfl (by kernel_rfl) rfl (fun wS _ => runs_move rfl) ?_
        refine d_pure 7 47 rfl (by kernel_rfl) rfl (fun wS _ => runs_move rfl) ?_
        refine d_pure 8 48 rfl (by kernel_rfl) rfl (fun wS _ => runs_len_slice Tryd.underlying25 rfl) ?_
        refine d_pure 9 49 rfl (by kernel_rfl) rfl (fun wS _ => runs_sub64 rfl rfl (by omega)) ?_
        refine d_pure 10 50 rfl (by kernel_rfl) rfl (fun wS _ => runs_slice_to (np - 1) Tryd.underlying25 ty28 rfl rfl (by omega) (by omega)) ?_
        refine d_only 11 rfl (by kernel_rfl) ?_
        refine s_alloc ty28 rfl rfl ?_
        intro b15 w511 e5_11 z5_11 hb15 X5_11
        replace hS5 : Chg wd5 _ [] := hS5.trans X5_11
        refine s_nil ⟨.inr hS5, ?_⟩
        refine d_only 12 rfl (by kernel_rfl) ?_
        replace hG := hG.keep hS5 (by simp)
        replace hT := hT.keep hS5 (by simp)
        replace hH := hH.keep0 hS5
        replace hX : Chg w _ (foot ts) := (hX.trans hS5).mono (by intro k hk hlt; simp at hk ⊢ <;> first | omega | grind)
        replace hb10 := hb10.keep hS5 (by simp)
        replace hb12 := hb12.keep hS5 (by simp)
        replace hb13 := hb13.keep hS5 (by simp)
        refine s_storeAll ty28 rfl rfl rfl hb15 (by rw [natsC_length, okl.1]) rfl (natsC_one _ _) ?_
        intro w512 z5_12 h5_12 X5_12
        replace hG := hG.keep X5_12 (by simp; omega)
        replace hT := hT.keep X5_12 (by simp [Rg] <;> omega)
        replace hH := hH.keep X5_12 (fun p hp => by cases hp; simp; omega)
        replace hX : Chg w _ (foot ts) := (hX.trans X5_12).mono (by intro k hk hlt; simp at hk ⊢ <;> first | omega | grind)
        replace hb10 := hb10.keep X5_12 (by simp; omega)
        replace hb12 := hb12.keep X5_12 (by simp; omega)
        replace hb13 := hb13.keep X5_12 (by simp; omega)
        replace hb15 := h5_12
        refine s_nil ⟨.inl rfl, ?_⟩
        refine d_only 13 rfl (by kernel_rfl) ?_
        refine s_val rfl rfl (runs_assign rfl) ?_
        refine s_nil ⟨.inl rfl, ?_⟩
        refine d_done (by kernel_rfl) ?_
        have hl15 := hb15.lt
        have hzX5 := hX.size
        refine hK15 _ _ ?_
        refine c_seq (fun K18 hK18 => ?_)
        refine c_seqreg (fun K19 hK19 => ?_)
        refine s_val rfl rfl (runs_move rfl) ?_
        refine s_val rfl rfl (runs_move rfl) ?_
        refine s_val rfl rfl (runs_dt (runs_eqd rfl rfl) (by omega)) ?_
        refine s_nil ?_
        refine hK19 _ _ ?_
        refine c_true rfl ?_
        refine c_seqdraw [] ([b12, b13]) (by kernel_rfl) ?_
        intro K20 hK20 wd7 Xd7 hS7
        replace hG := hG.keep Xd7 (by simp)
        replace hT := hT.keep Xd7 (by simp)
        replace hH := hH.keep0 Xd7
        replace hX : Chg w _ (foot ts) := (hX.trans Xd7).mono (by intro k hk hlt; simp at hk ⊢ <;> first | omega | grind)
        replace hb10 := hb10.keep Xd7 (by simp)
        replace hb12 := hb12.keep Xd7 (by simp)
        replace hb13 := hb13.keep Xd7 (by simp)
        replace hb15 := hb15.keep Xd7 (by simp)
        have zd7 := Xd7.size
        refine d_take 0 54 rfl (by kernel_rfl) rfl hS7 (fun wS hS => runs_loadAgg ty28 rfl ((hb15.keep hS (by simp; omega)).at) (by rw [natsC_length, okl.1])) ?_
        refine d_take 1 55 rfl (by kernel_rfl) rfl hS7 (fun wS hS => runs_loadAgg ty28 rfl ((hb15.keep hS (by simp; omega)).at) (by rw [natsC_length, okl.1])) ?_
        refine d_take 2 56 rfl (by kernel_rfl) rfl hS7 (fun wS hS => runs_move rfl) ?_
        refine d_take 3 57 rfl (by kernel_rfl) rfl hS7 (fun wS hS => runs_len_slice Tryd.underlying25 rfl) ?_
        refine d_take 4 58 rfl (by kernel_rfl) rfl hS7 (fun wS hS => runs_eqd rfl rfl) ?_
        refine d_only 5 rfl (by kernel_rfl) ?_
        refine s_storeAll ty28 rfl rfl rfl hb12 (by rw [natsC_length, okl.1]) rfl (natsC_one _ _) ?_
        intro w75 z7_5 h7_5 X7_5
        replace hG := hG.keep X7_5 (by simp; omega)
        replace hT := hT.keep X7_5 (by simp [Rg] <;> omega)
        replace hX : Chg w _ (foot ts) := (hX.trans X7_5).mono (by intro k hk hlt; simp at hk ⊢ <;> first | omega | grind)
        replace hb13 := hb13.keep X7_5 (by simp; omega)
        replace hb12 := h7_5
        replace hS7 : Chg wd7 _ ([b12, b13]) := (hS7.trans X7_5).mono (by intro k hk hlt; simp at hk ⊢ <;> first | assumption | omega)
        refine s_nil ⟨.inr hS7, ?_⟩
        refine d_only 6 rfl (by kernel_rfl) ?_
        refine s_storeAll ty28 rfl rfl rfl hb13 (by rw [natsC_length, okl.1]) rfl (natsC_one _ _) ?_
        intro w76 z7_6 h7_6 X7_6
        replace hG := hG.keep X7_6 (by simp; omega)
        replace hT := hT.keep X7_6 (by simp [Rg] <;> omega)
        replace hX : Chg w _ (foot ts) := (hX.trans X7_6).mono (by intro k hk hlt; simp at hk ⊢ <;> first | omega | grind)
        replace hb12 := hb12.keep X7_6 (by simp; omega)
        replace hb13 := h7_6
        replace hS7 : Chg wd7 _ ([b12, b13]) := (hS7.trans X7_6).mono (by intro k hk hlt; simp at hk ⊢ <;> first | assumption | omega)
        refine s_nil ⟨.inr hS7, ?_⟩
        refine d_take 7 14 rfl (by kernel_rfl) rfl hS7 (fun wS hS => runs_assign rfl) ?_
        refine d_done (by kernel_rfl) ?_
        replace hb10 := hb10.keep hS7 (by simp; omega)
        refine hK20 _ _ ?_
        refine c_ret ?_
        refine hret _ _ ?_
        subst hmn
        rw [Sp.both_part, Sp.bothN_part]
        have he : decide (((np - 1 : Nat) : Int) = 0) = q.isEmpty := by
          rw [show np - 1 = q.length by omega]; cases q <;> simp <;> omega
        refine ends3 (reads_cell ty28 rfl hb12.at (by rw [natsC_length, okl.1])) (reads_cell ty28 rfl hb13.at (by rw [natsC_length, okl.1])) (reads_tmp rfl) ⟨by rw [he], ts, ⟨hT.set l (fun x hx => .inl hx), Notes.nil, hX, fun k hk => .inl hk⟩⟩
    · refine c_seqreg (fun K6 hK6 => ?_)
      refine s_val rfl rfl (runs_move rfl) ?_
      refine s_val rfl rfl (runs_move rfl) ?_
      refine s_val rfl rfl (runs_df (runs_eqd rfl rfl) (by omega)) ?_
      refine s_val rfl rfl (runs_move rfl) ?_
      refine s_skip rfl rfl ?_
      refine s_val rfl rfl (runs_pickf rfl rfl) ?_
      refine s_nil ?_
      refine hK6 _ _ ?_
      refine c_false rfl ?_
      refine c_skip ?_
      refine hK5 _ _ ?_
      refine c_seq (fun K23 hK23 => ?_)
      refine c_seqreg (fun K24 hK24 => ?_)
      refine s_val rfl rfl (runs_move rfl) ?_
      refine s_val rfl rfl (runs_len_slice Tryd.underlying25 rfl) ?_
      refine s_val rfl rfl (runs_eqd rfl rfl) ?_
      refine s_nil ?_
      refine hK24 _ _ ?_
      refine c_dec rfl (fun hp0 => ?_) (fun hp0 => ?_)
      · obtain rfl : path = [] := List.eq_nil_of_length_eq_zero (by omega)
        refine c_seqreg (fun K25 hK25 => ?_)
        refine s_val rfl rfl (runs_build_zero Tryd.underlying28 ty5 ty28 rfl) ?_
        refine s_val rfl rfl (runs_build_zero Tryd.underlying28 ty5 ty28 rfl) ?_
        refine s_storeAll ty28 rfl rfl rfl hb12 (by simp) rfl (by simp [Value.oneCell']) ?_
        intro w42 z4_2 h4_2 X4_2
        replace hG := hG.keep X4_2 (by simp; omega)
        replace hT := hT.keep X4_2 (by simp [Rg] <;> omega)
        replace hX : Chg w _ (foot ts) := (hX.trans X4_2).mono (by intro k hk hlt; simp at hk ⊢ <;> first | omega | grind)
        replace hb10 := hb10.keep X4_2 (by simp; omega)
        replace hb13 := hb13.keep X4_2 (by simp; omega)
        replace hb12 := h4_2
        refine s_storeAll ty28 rfl rfl rfl hb13 (by simp) rfl (by simp [Value.oneCell']) ?_
        intro w43 z4_3 h4_3 X4_3
        replace hG := hG.keep X4_3 (by simp; omega)
        replace hT := hT.keep X4_3 (by simp [Rg] <;> omega)
        replace hX : Chg w _ (foot ts) := (hX.trans X4_3).mono (by intro k hk hlt; simp at hk ⊢ <;> first | omega | grind)
        replace hb10 := hb10.keep X4_3 (by simp; omega)
        replace hb12 := hb12.keep X4_3 (by simp; omega)
        replace hb13 := h4_3
        refine s_val rfl rfl (runs_assign rfl) ?_
        refine s_nil ?_
        refine hK25 _ _ ?_
        refine c_ret ?_
        refine hret _ _ ?_
        rw [Sp.both_nil _ _ _ _ (by first | exact fun h => hmn h.1 | simp), Sp.bothN_nil]
        refine ends3 (reads_cell ty28 rfl hb12.at (by simp)) (reads_cell ty28 rfl hb13.at (by simp)) (reads_tmp rfl) ⟨by simp [hv, zero_cells], ts, ⟨hT.set l (fun x hx => .inl hx), Notes.nil, hX, fun k hk => .inl hk⟩⟩
      · obtain ⟨bp, op, rfl⟩ := hH.rd.some_ (by omega)
        have hbp := hlb _ rfl (by omega)
        simp only at hbp
        obtain ⟨q, last, rfl⟩ : ∃ q last, path = q ++ [last] := by
          rcases List.eq_nil_or_concat path with rfl | ⟨q, x, rfl⟩
          · simp at hlen; omega
          · exact ⟨q, x, List.concat_eq_append⟩
        rw [List.length_append, List.length_singleton] at hlen hm
        have hlast : (q ++ [last])[np - 1]? = some last := by rw [show np - 1 = q.length by omega]; simp
        have okl := hH.ok last (by simp)
        have okq : ∀ x ∈ q, HOk x := fun x hx => hH.ok x (by simp [hx])
        have hq : ∀ {w : World}, HsR w (some ⟨bp, op, none⟩) np cp (q ++ [last]) → HsR w (some ⟨bp, op, none⟩) (np - 1) cp q := fun h => by
          have := h.to_ (np - 1) (by omega)
          rwa [show (q ++ [last]).take (np - 1) = q by rw [show np - 1 = q.length by omega]; simp] at this
        have hcn := hH.rd.le
        refine c_skip ?_
        refine hK23 _ _ ?_
        refine c_seqdraw [12, 13] ([]) (by kernel_rfl) ?_
        intro K28 hK28 wd5 Xd5 hS5
        replace hG := hG.keep Xd5 (by simp)
        replace hT := hT.keep Xd5 (by simp)
        replace hH := hH.keep0 Xd5
        replace hX : Chg w _ (foot ts) := (hX.trans Xd5).mono (by intro k hk hlt; simp at hk ⊢ <;> first | omega | grind)
        replace hb10 := hb10.keep Xd5 (by simp)
        replace hb12 := hb12.keep Xd5 (by simp)
        replace hb13 := hb13.keep Xd5 (by simp)
        have zd5 := Xd5.size
        refine d_take 0 40 rfl (by kernel_rfl) rfl hS5 (fun wS hS => runs_move rfl) ?_
        refine d_take 1 41 rfl (by kernel_rfl) rfl hS5 (fun wS hS => runs_move rfl) ?_
        refine d_take 2 42 rfl (by kernel_rfl) rfl hS5 (fun wS hS => runs_len_slice Tryd.underlying25 rfl) ?_
        refine d_take 3 43 rfl (by kernel_rfl) rfl hS5 (fun wS hS => runs_sub64 rfl rfl (by omega)) ?_
        refine d_take 4 44 rfl (by kernel_rfl) rfl hS5 (fun wS hS => runs_index_slice (np - 1) Tryd.underlying25 ty28 rfl rfl (by omega) (by omega)) ?_
        refine d_take 5 45 rfl (by kernel_rfl) rfl hS5 (fun wS hS => runs_loadAgg ty28 rfl ((hH.keep0 hS).elem hlast) (by rw [natsC_length, okl.1])) ?_
        refine d_pure 6 46 rfl (by kernel_rfl) rfl (fun wS _ => runs_move rfl) ?_
        refine d_pure 7 47 rfl (by kernel_rfl) rfl (fun wS _ => runs_move rfl) ?_
        refine d_pure 8 48 rfl (by kernel_rfl) rfl (fun wS _ => runs_len_slice Tryd.underlying25 rfl) ?_
        refine d_pure 9 49 rfl (by kernel_rfl) rfl (fun wS _ => runs_sub64 rfl rfl (by omega)) ?_
        refine d_pure 10 50 rfl (by kernel_rfl) rfl (fun wS _ => runs_slice_to (np - 1) Tryd.underlying25 ty28 rfl rfl (by omega) (by omega)) ?_
        refine d_only 11 rfl (by kernel_rfl) ?_
        refine s_alloc ty28 rfl rfl ?_
        intro b15 w511 e5_11 z5_11 hb15 X5_11
        replace hS5 : Chg wd5 _ [] := hS5.trans X5_11
        refine s_nil ⟨.inr hS5, ?_⟩
        refine d_only 12 rfl (by kernel_rfl) ?_
        replace hG := hG.keep hS5 (by simp)
        replace hT := hT.keep hS5 (by simp)
        replace hH := hH.keep0 hS5
        replace hX : Chg w _ (foot ts) := (hX.trans hS5).mono (by intro k hk hlt; simp at hk ⊢ <;> first | omega | grind)
        replace hb10 := hb10.keep hS5 (by simp)
        replace hb12 := hb12.keep hS5 (by simp)
        replace hb13 := hb13.keep hS5 (by simp)
        refine s_storeAll ty28 rfl rfl rfl hb15 (by rw [natsC_length, okl.1]) rfl (natsC_one _ _) ?_
        intro w512 z5_12 h5_12 X5_12
        replace hG := hG.keep X5_12 (by simp; omega)
        replace hT := hT.keep X5_12 (by simp [Rg] <;> omega)
        replace hH := hH.keep X5_12 (fun p hp => by cases hp; simp; omega)
        replace hX : Chg w _ (foot ts) := (hX.trans X5_12).mono (by intro k hk hlt; simp at hk ⊢ <;> first | omega | grind)
        replace hb10 := hb10.keep X5_12 (by simp; omega)
        replace hb12 := hb12.keep X5_12 (by simp; omega)
        replace hb13 := hb13.keep X5_12 (by simp; omega)
        replace hb15 := h5_12
        refine s_nil ⟨.inl rfl, ?_⟩
        refine d_only 13 rfl (by kernel_rfl) ?_
        refine s_val rfl rfl (runs_assign rfl) ?_
        refine s_nil ⟨.inl rfl, ?_⟩
        refine d_done (by kernel_rfl) ?_
        have hl15 := hb15.lt
        have hzX5 := hX.size
        refine hK28 _ _ ?_
        refine c_seq (fun K31 hK31 => ?_)
        refine c_seqreg (fun K32 hK32 => ?_)
        refine s_val rfl rfl (runs_move rfl) ?_
        refine s_val rfl rfl (runs_move rfl) ?_
        refine s_val rfl rfl (runs_df (runs_eqd rfl rfl) (by omega)) ?_
        refine s_nil ?_
        refine hK32 _ _ ?_
        refine c_false rfl ?_
        refine c_skip ?_
        refine hK31 _ _ ?_
        refine c_seqreg (fun K33 hK33 => ?_)
        refine s_val rfl rfl (runs_move rfl) ?_
        refine s_callf (xs := [.tmp 59]) rfl rfl Tryd.func27 rfl (by kernel_rfl) rfl (split_calls n _ (by omega)) ?_
        rintro _ w6 ⟨rfl, X8_1⟩
        replace hG := hG.keep X8_1 (by simp)
        replace hT := hT.keep X8_1 (by simp)
        replace hH := hH.keep0 X8_1
        replace hX : Chg w _ (foot ts) := (hX.trans X8_1).mono (by intro k hk hlt; simp at hk ⊢ <;> first | omega | grind)
        replace hb10 := hb10.keep X8_1 (by simp)
        replace hb12 := hb12.keep X8_1 (by simp)
        replace hb13 := hb13.keep X8_1 (by simp)
        replace hb15 := hb15.keep X8_1 (by simp)
        have zs8_1 := X8_1.size
        refine s_val rfl rfl (runs_assign rfl) ?_
        refine s_nil ?_
        have h2 : 2 ≤ n := by omega
        have hk0 := Sp.split_pos n
        have hk1 := Sp.split_lt h2
        obtain ⟨s, hs⟩ : ∃ s, s = Sp.split n := ⟨_, rfl⟩
        rw [← hs] at hk0 hk1 ⊢
        have hzX8 := hX.size
        refine hK33 _ _ ?_
        refine c_seq (fun K35 hK35 => ?_)
        refine c_seqreg (fun K36 hK36 => ?_)
        refine s_val rfl rfl (runs_move rfl) ?_
        refine s_val rfl rfl (runs_move rfl) ?_
        refine s_val rfl rfl (runs_le rfl rfl) ?_
        refine s_nil ?_
        refine hK36 _ _ ?_
        refine c_dec rfl (fun hms => ?_) (fun hms => ?_)
        · refine c_seqreg (fun K37 hK37 => ?_)
          refine s_val rfl rfl (runs_move rfl) ?_
          refine s_val rfl rfl (runs_move rfl) ?_
          refine s_val rfl rfl (runs_move rfl) ?_
          refine s_val rfl rfl (runs_move rfl) ?_
          refine s_val rfl rfl (runs_loadAgg ty28 rfl (hb10.at) (by rw [natsC_length, ho.1])) ?_
          refine s_val rfl rfl (runs_move rfl) ?_
          refine s_callf (xs := [.tmp 65, .tmp 66, .tmp 67, .tmp 68, .tmp 69, .tmp 70]) rfl rfl Tryd.func30 rfl (by kernel_rfl) rfl (ih q (by omega) B lo _ (b10 :: b12 :: b13 :: b15 :: l) tv ts old m s whole _ (np - 1) cp _ (hT.set _ (by intro x hx; simp only [List.mem_cons] at hx; rcases hx with rfl | rfl | rfl | rfl | hx; all_goals first | (right; omega) | (left; assumption) | (left; simp; done) | (left; simp [hx]; done))) hG (by omega) (by omega) (by intro x hx; have e1 := hb12.lt; have e2 := hb13.lt; have e3 := hb10.lt; have e4 := hb15.lt; simp only [List.mem_cons] at hx; rcases hx with rfl | rfl | rfl | rfl | hx; all_goals first | omega | (have := hl _ hx; omega)) ho (hq hH) (fun p hp _ => by cases hp; simp only; omega) (by omega) (by omega) (by omega) (by omega) (by omega)) ?_
          rintro _ w9 ⟨rfl, ts1, hP⟩
          replace hG := hG.keep hP.chg (fun k hk => hT0.arg.foot_lo k hk)
          replace hX : Chg w _ (foot ts) := (hX.trans hP.chg).mono (by intro k hk _; simpa using hk)
          replace hb10 := hb10.keep hP.chg (fun hm => by have := (hft _ hm).2.1; omega)
          replace hb12 := hb12.keep hP.chg (fun hm => by have := (hft _ hm).2.1; omega)
          replace hb13 := hb13.keep hP.chg (fun hm => by have := (hft _ hm).2.1; omega)
          replace hb15 := hb15.keep hP.chg (fun hm => by have := (hft _ hm).2.1; omega)
          have zs10_6 := hP.chg.size
          have hT := hP.tg
          have hsz9 := hP.chg.size
          have hzX10 := hX.size
          have ob := both_ok old ho _ q m s whole (Nat.le_refl _) okq
          have hnl := hP.notes.len
          have hnl2 := Sp.bothN_len old q m s whole
          refine s_val rfl rfl (runs_move rfl) ?_
          refine s_val rfl rfl (runs_extract rfl rfl) ?_
          refine s_val rfl rfl (runs_extract rfl rfl) ?_
          refine s_val rfl rfl (runs_extract rfl rfl) ?_
          refine s_alloc ty28 rfl rfl ?_
          intro b18 wa1 e10_11 z10_11 hb18 X10_11
          have s10_11_hX := hX.size
          have s10_11_hb10 := hb10.lt
          have s10_11_hb12 := hb12.lt
          have s10_11_hb13 := hb13.lt
          have s10_11_hb15 := hb15.lt
          replace hG := hG.keep X10_11 (by simp)
          replace hX : Chg w _ (foot ts) := (hX.trans X10_11).mono (by intro k hk hlt; simp at hk ⊢ <;> first | omega | grind)
          replace hb10 := hb10.keep X10_11 (by simp)
          replace hb12 := hb12.keep X10_11 (by simp)
          replace hb13 := hb13.keep X10_11 (by simp)
          replace hb15 := hb15.keep X10_11 (by simp)
          replace hT := hT.keep X10_11 (by simp)
          refine s_alloc ty28 rfl rfl ?_
          intro b19 wa2 e10_12 z10_12 hb19 X10_12
          have s10_12_hX := hX.size
          have s10_12_hb10 := hb10.lt
          have s10_12_hb12 := hb12.lt
          have s10_12_hb13 := hb13.lt
          have s10_12_hb15 := hb15.lt
          have s10_12_hb18 := hb18.lt
          replace hG := hG.keep X10_12 (by simp)
          replace hX : Chg w _ (foot ts) := (hX.trans X10_12).mono (by intro k hk hlt; simp at hk ⊢ <;> first | omega | grind)
          replace hb10 := hb10.keep X10_12 (by simp)
          replace hb12 := hb12.keep X10_12 (by simp)
          replace hb13 := hb13.keep X10_12 (by simp)
          replace hb15 := hb15.keep X10_12 (by simp)
          replace hT := hT.keep X10_12 (by simp)
          replace hb18 := hb18.keep X10_12 (by simp)
          refine s_storeAll ty28 rfl rfl rfl hb18 (by rw [natsC_length, ob.1.1]) rfl (natsC_one _ _) ?_
          intro wa3 z10_13 h10_13 X10_13
          replace hG := hG.keep X10_13 (by simp; omega)
          replace hX : Chg w _ (foot ts) := (hX.trans X10_13).mono (by intro k hk hlt; simp at hk ⊢ <;> first | omega | grind)
          replace hb10 := hb10.keep X10_13 (by simp; omega)
          replace hb12 := hb12.keep X10_13 (by simp; omega)
          replace hb13 := hb13.keep X10_13 (by simp; omega)
          replace hb15 := hb15.keep X10_13 (by simp; omega)
          replace hT := hT.keep X10_13 (by simp [Rg] <;> omega)
          replace hb19 := hb19.keep X10_13 (by simp; omega)
          replace hb18 := h10_13
          refine s_storeAll ty28 rfl rfl rfl hb19 (by rw [natsC_length, ob.2.1]) rfl (natsC_one _ _) ?_
          intro wa4 z10_14 h10_14 X10_14
          replace hG := hG.keep X10_14 (by simp; omega)
          replace hX : Chg w _ (foot ts) := (hX.trans X10_14).mono (by intro k hk hlt; simp at hk ⊢ <;> first | omega | grind)
          replace hb10 := hb10.keep X10_14 (by simp; omega)
          replace hb12 := hb12.keep X10_14 (by simp; omega)
          replace hb13 := hb13.keep X10_14 (by simp; omega)
          replace hb15 := hb15.keep X10_14 (by simp; omega)
          replace hT := hT.keep X10_14 (by simp [Rg] <;> omega)
          replace hb18 := hb18.keep X10_14 (by simp; omega)
          replace hb19 := h10_14
          refine s_val rfl rfl (runs_assign rfl) ?_
          refine s_nil ?_
          have hla1 := hb18.lt
          have hla2 := hb19.lt
          have hzX := hX.size
          refine hK37 _ _ ?_
          refine c_seqdraw [] ((b12 :: b13 :: foot ts1)) (by kernel_rfl) ?_
          intro K43 hK43 wd11 Xd11 hS11
          replace hG := hG.keep Xd11 (by simp)
          replace hX : Chg w _ (foot ts) := (hX.trans Xd11).mono (by intro k hk hlt; simp at hk ⊢ <;> first | omega | grind)
          replace hb10 := hb10.keep Xd11 (by simp)
          replace hb12 := hb12.keep Xd11 (by simp)
          replace hb13 := hb13.keep Xd11 (by simp)
          replace hb15 := hb15.keep Xd11 (by simp)
          replace hT := hT.keep Xd11 (by simp)
          replace hb18 := hb18.keep Xd11 (by simp)
          replace hb19 := hb19.keep Xd11 (by simp)
          have zd11 := Xd11.size
          have hft1 := hT.foot
          refine d_take 0 75 rfl (by kernel_rfl) rfl hS11 (fun wS hS => runs_loadAgg ty28 rfl ((hb18.keep hS (by simp only [List.mem_cons, not_or]; exact ⟨by omega, by omega, fun hm => by have h := hft1 _ hm; simp [Rg] at h <;> omega⟩)).at) (by rw [natsC_length, ob.1.1])) ?_
          refine d_take 1 76 rfl (by kernel_rfl) rfl hS11 (fun wS hS => runs_move rfl) ?_
          refine d_take 2 77 rfl (by kernel_rfl) rfl hS11 (fun wS hS => runs_loadAgg ty28 rfl ((hb19.keep hS (by simp only [List.mem_cons, not_or]; exact ⟨by omega, by omega, fun hm => by have h := hft1 _ hm; simp [Rg] at h <;> omega⟩)).at) (by rw [natsC_length, ob.2.1])) ?_
          refine d_take 3 78 rfl (by kernel_rfl) rfl hS11 (fun wS hS => runs_loadAgg ty28 rfl ((hb15.keep hS (by simp only [List.mem_cons, not_or]; exact ⟨by omega, by omega, fun hm => by have h := hft1 _ hm; simp [Rg] at h <;> omega⟩)).at) (by rw [natsC_length, okl.1])) ?_
          refine d_take 5 80 rfl (by kernel_rfl) rfl hS11 (fun wS hS => runs_move rfl) ?_
          refine d_only 4 rfl (by kernel_rfl) ?_
          refine s_callf (xs := [.tmp 76, .tmp 77, .tmp 78]) rfl rfl Tryd.func16 rfl (by kernel_rfl) rfl ((hT.set (b12 :: b13 :: l) (by intro x hx; simp only [List.mem_cons] at hx; rcases hx with rfl | rfl | hx; all_goals first | (right; omega) | (left; assumption) | (left; simp; done) | (left; simp [hx]; done))).node hG (by omega) (by omega) (by intro x hx; have e1 := hb12.lt; have e2 := hb13.lt;  simp only [List.mem_cons] at hx; rcases hx with rfl | rfl | hx; all_goals first | omega | (have := hl _ hx; omega)) ob.2 okl (by omega)) ?_
          rintro _ w114 ⟨rfl, ts2, hP2⟩
          replace hG := hG.keep hP2.chg (fun k hk => hT.arg.foot_lo k hk)
          replace hX : Chg w _ (foot ts) := (hX.trans hP2.chg).mono (by intro k hk hlt; simp only [List.mem_append] at hk; rcases hk with hk | hk; exact hk; rcases hP.foot k hk with hk | hk; exact hk; omega)
          replace hb12 := hb12.keep hP2.chg (fun hm => by have h := hT.foot _ hm; simp [Rg] at h <;> omega)
          replace hb13 := hb13.keep hP2.chg (fun hm => by have h := hT.foot _ hm; simp [Rg] at h <;> omega)
          have zs11_4 := hP2.chg.size
          have hT := hP2.tg
          have hzhP2 := hP2.chg.size
          have hnhP2 := hP2.notes.len
          simp at hnhP2
          replace hS11 : Chg wd11 _ (b12 :: b13 :: foot ts1) := (hS11.trans hP2.chg).mono (by intro k hk hlt; simp at hk ⊢; grind)
          refine s_nil ⟨.inr hS11, ?_⟩
          refine d_only 6 rfl (by kernel_rfl) ?_
          refine s_storeAll ty28 rfl rfl rfl hb12 (by rw [natsC_length, ob.1.1]) rfl (natsC_one _ _) ?_
          intro ws6 z11_6 h11_6 X11_6
          replace hG := hG.keep X11_6 (by simp; omega)
          replace hX : Chg w _ (foot ts) := (hX.trans X11_6).mono (by intro k hk hlt; simp at hk ⊢ <;> first | omega | grind)
          replace hb13 := hb13.keep X11_6 (by simp; omega)
          replace hT := hT.keep X11_6 (by simp [Rg] <;> omega)
          replace hb12 := h11_6
          replace hS11 : Chg wd11 _ (b12 :: b13 :: foot ts1) := (hS11.trans X11_6).mono (by intro k hk hlt; simp at hk ⊢; grind)
          refine s_nil ⟨.inr hS11, ?_⟩
          refine d_only 7 rfl (by kernel_rfl) ?_
          refine s_storeAll ty28 rfl rfl rfl hb13 (by rw [natsC_length, (node_ok _ _).1]) rfl (natsC_one _ _) ?_
          intro ws7 z11_7 h11_7 X11_7
          replace hG := hG.keep X11_7 (by simp; omega)
          replace hX : Chg w _ (foot ts) := (hX.trans X11_7).mono (by intro k hk hlt; simp at hk ⊢ <;> first | omega | grind)
          replace hb12 := hb12.keep X11_7 (by simp; omega)
          replace hT := hT.keep X11_7 (by simp [Rg] <;> omega)
          replace hb13 := h11_7
          replace hS11 : Chg wd11 _ (b12 :: b13 :: foot ts1) := (hS11.trans X11_7).mono (by intro k hk hlt; simp at hk ⊢; grind)
          refine s_nil ⟨.inr hS11, ?_⟩
          refine d_take 8 14 rfl (by kernel_rfl) rfl hS11 (fun wS hS => runs_assign rfl) ?_
          refine d_done (by kernel_rfl) ?_
          refine hK43 _ _ ?_
          refine c_ret ?_
          refine hret _ _ ?_
          rw [Sp.both_lo _ _ _ _ _ _ hmn (by omega), Sp.bothN_lo _ _ _ _ _ _ hmn (by omega), ← hs]
          refine ends3 (reads_cell ty28 rfl hb12.at (by rw [natsC_length, ob.1.1])) (reads_cell ty28 rfl hb13.at (by rw [natsC_length, (node_ok _ _).1])) (reads_tmp rfl) ⟨rfl, ts2, ⟨hT.set l (fun x hx => .inl (by simp [hx])), hP.notes.trans hP2.notes, hX, fun k hk => ?_⟩⟩
          exact (hP2.foot k hk).elim (fun h => (hP.foot k h).elim .inl (fun h => .inr (by omega))) (fun h => .inr (by omega))
        · refine c_skip ?_
          refine hK35 _ _ ?_
          refine c_seqreg (fun K47 hK47 => ?_)
          refine s_val rfl rfl (runs_move rfl) ?_
          refine s_val rfl rfl (runs_move rfl) ?_
          refine s_val rfl rfl (runs_move rfl) ?_
          refine s_val rfl rfl (runs_as (v' := .int .i64 ((m - s : Nat) : Int)) (runs_sub64 rfl rfl (by omega)) (congrArg (Value.int .i64) (by omega))) ?_
          refine s_val rfl rfl (runs_move rfl) ?_
          refine s_val rfl rfl (runs_move rfl) ?_
          refine s_val rfl rfl (runs_as (v' := .int .i64 ((n - s : Nat) : Int)) (runs_sub64 rfl rfl (by omega)) (congrArg (Value.int .i64) (by omega))) ?_
          refine s_val rfl rfl (runs_loadAgg ty28 rfl (hb10.at) (by rw [natsC_length, ho.1])) ?_
          refine s_val rfl rfl (runs_move rfl) ?_
          refine s_callf (xs := [.tmp 82, .tmp 85, .tmp 88, .const (.bool false), .tmp 89, .tmp 90]) rfl rfl Tryd.func30 rfl (by kernel_rfl) rfl (ih q (by omega) B lo _ (b10 :: b12 :: b13 :: b15 :: l) tv ts old (m - s) (n - s) false _ (np - 1) cp _ (hT.set _ (by intro x hx; simp only [List.mem_cons] at hx; rcases hx with rfl | rfl | rfl | rfl | hx; all_goals first | (right; omega) | (left; assumption) | (left; simp; done) | (left; simp [hx]; done))) hG (by omega) (by omega) (by intro x hx; have e1 := hb12.lt; have e2 := hb13.lt; have e3 := hb10.lt; have e4 := hb15.lt; simp only [List.mem_cons] at hx; rcases hx with rfl | rfl | rfl | rfl | hx; all_goals first | omega | (have := hl _ hx; omega)) ho (hq hH) (fun p hp _ => by cases hp; simp only; omega) (by omega) (by omega) (by omega) (by omega) (by omega)) ?_
          rintro _ w9 ⟨rfl, ts1, hP⟩
          replace hG := hG.keep hP.chg (fun k hk => hT0.arg.foot_lo k hk)
          replace hX : Chg w _ (foot ts) := (hX.trans hP.chg).mono (by intro k hk _; simpa using hk)
          replace hb10 := hb10.keep hP.chg (fun hm => by have := (hft _ hm).2.1; omega)
          replace hb12 := hb12.keep hP.chg (fun hm => by have := (hft _ hm).2.1; omega)
          replace hb13 := hb13.keep hP.chg (fun hm => by have := (hft _ hm).2.1; omega)
          replace hb15 := hb15.keep hP.chg (fun hm => by have := (hft _ hm).2.1; omega)
          have zs12_9 := hP.chg.size
          have hT := hP.tg
          have hsz9 := hP.chg.size
          have hzX10 := hX.size
          have ob := both_ok old ho _ q (m - s) (n - s) false (Nat.le_refl _) okq
          have hnl := hP.notes.len
          have hnl2 := Sp.bothN_len old q (m - s) (n - s) false
          refine s_val rfl rfl (runs_move rfl) ?_
          refine s_val rfl rfl (runs_extract rfl rfl) ?_
          refine s_val rfl rfl (runs_extract rfl rfl) ?_
          refine s_val rfl rfl (runs_extract rfl rfl) ?_
          refine s_alloc ty28 rfl rfl ?_
          intro b21 wa1 e12_14 z12_14 hb21 X12_14
          have s12_14_hX := hX.size
          have s12_14_hb10 := hb10.lt
          have s12_14_hb12 := hb12.lt
          have s12_14_hb13 := hb13.lt
          have s12_14_hb15 := hb15.lt
          replace hG := hG.keep X12_14 (by simp)
          replace hX : Chg w _ (foot ts) := (hX.trans X12_14).mono (by intro k hk hlt; simp at hk ⊢ <;> first | omega | grind)
          replace hb10 := hb10.keep X12_14 (by simp)
          replace hb12 := hb12.keep X12_14 (by simp)
          replace hb13 := hb13.keep X12_14 (by simp)
          replace hb15 := hb15.keep X12_14 (by simp)
          replace hT := hT.keep X12_14 (by simp)
          refine s_alloc ty28 rfl rfl ?_
          intro b22 wa2 e12_15 z12_15 hb22 X12_15
          have s12_15_hX := hX.size
          have s12_15_hb10 := hb10.lt
          have s12_15_hb12 := hb12.lt
          have s12_15_hb13 := hb13.lt
          have s12_15_hb15 := hb15.lt
          have s12_15_hb21 := hb21.lt
          replace hG := hG.keep X12_15 (by simp)
          replace hX : Chg w _ (foot ts) := (hX.trans X12_15).mono (by intro k hk hlt; simp at hk ⊢ <;> first | omega | grind)
          replace hb10 := hb10.keep X12_15 (by simp)
          replace hb12 := hb12.keep X12_15 (by simp)
          replace hb13 := hb13.keep X12_15 (by simp)
          replace hb15 := hb15.keep X12_15 (by simp)
          replace hT := hT.keep X12_15 (by simp)
          replace hb21 := hb21.keep X12_15 (by simp)
          refine s_storeAll ty28 rfl rfl rfl hb21 (by rw [natsC_length, ob.1.1]) rfl (natsC_one _ _) ?_
          intro wa3 z12_16 h12_16 X12_16
          replace hG := hG.keep X12_16 (by simp; omega)
          replace hX : Chg w _ (foot ts) := (hX.trans X12_16).mono (by intro k hk hlt; simp at hk ⊢ <;> first | omega | grind)
          replace hb10 := hb10.keep X12_16 (by simp; omega)
          replace hb12 := hb12.keep X12_16 (by simp; omega)
          replace hb13 := hb13.keep X12_16 (by simp; omega)
          replace hb15 := hb15.keep X12_16 (by simp; omega)
          replace hT := hT.keep X12_16 (by simp [Rg] <;> omega)
          replace hb22 := hb22.keep X12_16 (by simp; omega)
          replace hb21 := h12_16
          refine s_storeAll ty28 rfl rfl rfl hb22 (by rw [natsC_length, ob.2.1]) rfl (natsC_one _ _) ?_
          intro wa4 z12_17 h12_17 X12_17
          replace hG := hG.keep X12_17 (by simp; omega)
          replace hX : Chg w _ (foot ts) := (hX.trans X12_17).mono (by intro k hk hlt; simp at hk ⊢ <;> first | omega | grind)
          replace hb10 := hb10.keep X12_17 (by simp; omega)
          replace hb12 := hb12.keep X12_17 (by simp; omega)
          replace hb13 := hb13.keep X12_17 (by simp; omega)
          replace hb15 := hb15.keep X12_17 (by simp; omega)
          replace hT := hT.keep X12_17 (by simp [Rg] <;> omega)
          replace hb21 := hb21.keep X12_17 (by simp; omega)
          replace hb22 := h12_17
          refine s_val rfl rfl (runs_assign rfl) ?_
          refine s_nil ?_
          have hla1 := hb21.lt
          have hla2 := hb22.lt
          have hzX := hX.size
          refine hK47 _ _ ?_
          refine c_seqdraw [] ((b12 :: b13 :: foot ts1)) (by kernel_rfl) ?_
          intro K53 hK53 wd13 Xd13 hS13
          replace hG := hG.keep Xd13 (by simp)
          replace hX : Chg w _ (foot ts) := (hX.trans Xd13).mono (by intro k hk hlt; simp at hk ⊢ <;> first | omega | grind)
          replace hb10 := hb10.keep Xd13 (by simp)
          replace hb12 := hb12.keep Xd13 (by simp)
          replace hb13 := hb13.keep Xd13 (by simp)
          replace hb15 := hb15.keep Xd13 (by simp)
          replace hT := hT.keep Xd13 (by simp)
          replace hb21 := hb21.keep Xd13 (by simp)
          replace hb22 := hb22.keep Xd13 (by simp)
          have zd13 := Xd13.size
          have hft1 := hT.foot
          refine d_take 0 95 rfl (by kernel_rfl) rfl hS13 (fun wS hS => runs_move rfl) ?_
          refine d_take 1 96 rfl (by kernel_rfl) rfl hS13 (fun wS hS => runs_loadAgg ty28 rfl ((hb15.keep hS (by simp only [List.mem_cons, not_or]; exact ⟨by omega, by omega, fun hm => by have h := hft1 _ hm; simp [Rg] at h <;> omega⟩)).at) (by rw [natsC_length, okl.1])) ?_
          refine d_take 2 97 rfl (by kernel_rfl) rfl hS13 (fun wS hS => runs_loadAgg ty28 rfl ((hb21.keep hS (by simp only [List.mem_cons, not_or]; exact ⟨by omega, by omega, fun hm => by have h := hft1 _ hm; simp [Rg] at h <;> omega⟩)).at) (by rw [natsC_length, ob.1.1])) ?_
          refine d_take 4 99 rfl (by kernel_rfl) rfl hS13 (fun wS hS => runs_move rfl) ?_
          refine d_take 5 100 rfl (by kernel_rfl) rfl hS13 (fun wS hS => runs_loadAgg ty28 rfl ((hb15.keep hS (by simp only [List.mem_cons, not_or]; exact ⟨by omega, by omega, fun hm => by have h := hft1 _ hm; simp [Rg] at h <;> omega⟩)).at) (by rw [natsC_length, okl.1])) ?_
          refine d_take 6 101 rfl (by kernel_rfl) rfl hS13 (fun wS hS => runs_loadAgg ty28 rfl ((hb22.keep hS (by simp only [List.mem_cons, not_or]; exact ⟨by omega, by omega, fun hm => by have h := hft1 _ hm; simp [Rg] at h <;> omega⟩)).at) (by rw [natsC_length, ob.2.1])) ?_
          refine d_take 8 103 rfl (by kernel_rfl) rfl hS13 (fun wS hS => runs_move rfl) ?_
          refine d_only 3 rfl (by kernel_rfl) ?_
          refine s_callf (xs := [.tmp 95, .tmp 96, .tmp 97]) rfl rfl Tryd.func16 rfl (by kernel_rfl) rfl ((hT.set (b12 :: b13 :: l) (by intro x hx; simp only [List.mem_cons] at hx; rcases hx with rfl | rfl | hx; all_goals first | (right; omega) | (left; assumption) | (left; simp; done) | (left; simp [hx]; done))).node hG (by omega) (by omega) (by intro x hx; have e1 := hb12.lt; have e2 := hb13.lt;  simp only [List.mem_cons] at hx; rcases hx with rfl | rfl | hx; all_goals first | omega | (have := hl _ hx; omega)) okl ob.1 (by omega)) ?_
          rintro _ w133 ⟨rfl, ts2, hP2⟩
          replace hG := hG.keep hP2.chg (fun k hk => hT.arg.foot_lo k hk)
          replace hX : Chg w _ (foot ts) := (hX.trans hP2.chg).mono (by intro k hk hlt; simp only [List.mem_append] at hk; rcases hk with hk | hk; exact hk; rcases hP.foot k hk with hk | hk; exact hk; omega)
          replace hb12 := hb12.keep hP2.chg (fun hm => by have h := hT.foot _ hm; simp [Rg] at h <;> omega)
          replace hb13 := hb13.keep hP2.chg (fun hm => by have h := hT.foot _ hm; simp [Rg] at h <;> omega)
          have zs13_3 := hP2.chg.size
          have hT := hP2.tg
          have hzhP2 := hP2.chg.size
          have hnhP2 := hP2.notes.len
          simp at hnhP2
          replace hS13 : Chg wd13 _ (b12 :: b13 :: foot ts1) := (hS13.trans hP2.chg).mono (by intro k hk hlt; simp at hk ⊢; grind)
          refine s_nil ⟨.inr hS13, ?_⟩
          refine d_only 7 rfl (by kernel_rfl) ?_
          refine s_callf (xs := [.tmp 99, .tmp 100, .tmp 101]) rfl rfl Tryd.func16 rfl (by kernel_rfl) rfl (hT.node hG (by omega) (by omega) (by intro x hx; have e1 := hb12.lt; have e2 := hb13.lt;  simp only [List.mem_cons] at hx; rcases hx with rfl | rfl | hx; all_goals first | omega | (have := hl _ hx; omega)) okl ob.2 (by omega)) ?_
          rintro _ w137 ⟨rfl, ts3, hP3⟩
          replace hG := hG.keep hP3.chg (fun k hk => hT.arg.foot_lo k hk)
          replace hX : Chg w _ (foot ts) := (hX.trans hP3.chg).mono (by intro k hk hlt; simp only [List.mem_append] at hk; rcases hk with hk | hk; exact hk; rcases hP2.foot k hk with hk | hk; rcases hP.foot k hk with hk | hk; exact hk; omega; omega)
          replace hb12 := hb12.keep hP3.chg (fun hm => by have h := hT.foot _ hm; simp [Rg] at h <;> omega)
          replace hb13 := hb13.keep hP3.chg (fun hm => by have h := hT.foot _ hm; simp [Rg] at h <;> omega)
          have zs13_7 := hP3.chg.size
          have hT := hP3.tg
          have hzhP3 := hP3.chg.size
          have hnhP3 := hP3.notes.len
          simp at hnhP3
          replace hS13 : Chg wd13 _ (b12 :: b13 :: foot ts1) := (hS13.trans hP3.chg).mono (by intro k hk hlt; simp only [List.mem_append] at hk; rcases hk with hk | hk; exact hk; rcases hP2.foot k hk with hk | hk; simp [hk]; omega)
          refine s_nil ⟨.inr hS13, ?_⟩
          refine d_only 9 rfl (by kernel_rfl) ?_
          refine s_storeAll ty28 rfl rfl rfl hb12 (by rw [natsC_length, (node_ok _ _).1]) rfl (natsC_one _ _) ?_
          intro ws9 z13_9 h13_9 X13_9
          replace hG := hG.keep X13_9 (by simp; omega)
          replace hX : Chg w _ (foot ts) := (hX.trans X13_9).mono (by intro k hk hlt; simp at hk ⊢ <;> first | omega | grind)
          replace hb13 := hb13.keep X13_9 (by simp; omega)
          replace hT := hT.keep X13_9 (by simp [Rg] <;> omega)
          replace hb12 := h13_9
          replace hS13 : Chg wd13 _ (b12 :: b13 :: foot ts1) := (hS13.trans X13_9).mono (by intro k hk hlt; simp at hk ⊢; grind)
          refine s_nil ⟨.inr hS13, ?_⟩
          refine d_only 10 rfl (by kernel_rfl) ?_
          refine s_storeAll ty28 rfl rfl rfl hb13 (by rw [natsC_length, (node_ok _ _).1]) rfl (natsC_one _ _) ?_
          intro ws10 z13_10 h13_10 X13_10
          replace hG := hG.keep X13_10 (by simp; omega)
          replace hX : Chg w _ (foot ts) := (hX.trans X13_10).mono (by intro k hk hlt; simp at hk ⊢ <;> first | omega | grind)
          replace hb12 := hb12.keep X13_10 (by simp; omega)
          replace hT := hT.keep X13_10 (by simp [Rg] <;> omega)
          replace hb13 := h13_10
          replace hS13 : Chg wd13 _ (b12 :: b13 :: foot ts1) := (hS13.trans X13_10).mono (by intro k hk hlt; simp at hk ⊢; grind)
          refine s_nil ⟨.inr hS13, ?_⟩
          refine d_take 11 14 rfl (by kernel_rfl) rfl hS13 (fun wS hS => runs_assign rfl) ?_
          refine d_done (by kernel_rfl) ?_
          refine hK53 _ _ ?_
          refine c_ret ?_
          refine hret _ _ ?_
          rw [Sp.both_hi _ _ _ _ _ _ hmn (by omega), Sp.bothN_hi _ _ _ _ _ _ hmn (by omega), ← hs]
          refine ends3 (reads_cell ty28 rfl hb12.at (by rw [natsC_length, (node_ok _ _).1])) (reads_cell ty28 rfl hb13.at (by rw [natsC_length, (node_ok _ _).1])) (reads_tmp rfl) ⟨rfl, ts3, ⟨hT.set l (fun x hx => .inl (by simp [hx])), by simpa using (hP.notes.trans hP2.notes).trans hP3.notes, hX, fun k hk => ?_⟩⟩
          exact (hP3.foot k hk).elim (fun h => (hP2.foot k h).elim (fun h => (hP.foot k h).elim .inl (fun h => .inr (by omega))) (fun h => .inr (by omega))) (fun h => .inr (by omega))
end Go.Proofs.YtecpedpfkdnfhaaDoor
