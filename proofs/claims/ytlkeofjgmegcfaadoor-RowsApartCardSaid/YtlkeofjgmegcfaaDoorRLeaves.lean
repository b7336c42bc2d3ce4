/- Part RLeaves of the proofs on this seat. Conditions: none beyond those in the theorems. By an AI agent. -/
import Derived.Test.YtlkeofjgmegcfaaDoorRow4
namespace Go.Proofs.YtlkeofjgmegcfaaDoor
open Go Go.RowKit

theorem numB_inj {x y : Nm} (hx : NOk x) (hy : NOk y) (h : Sp.numB x = Sp.numB y) : x = y := by
  obtain ⟨x1, x2⟩ := x
  obtain ⟨y1, y2⟩ := y
  simp only [NOk] at hx hy
  simp [Sp.numB, List.range_succ] at h
  rw [Prod.mk.injEq]
  omega
theorem time_inj {x y : Int} (hx : 0 ≤ x ∧ x ≤ 65535) (hy : 0 ≤ y ∧ y ≤ 65535) (h : Sp.intB 6 x = Sp.intB 6 y) : x = y := by
  simp [Sp.intB, List.range_succ] at h
  omega
theorem event_inj {x y : Int} (hx : 0 ≤ x ∧ x ≤ 255) (hy : 0 ≤ y ∧ y ≤ 255) (h : Sp.intB 2 (x + 1) = Sp.intB 2 (y + 1)) : x = y := by
  simp [Sp.intB, List.range_succ] at h
  omega
theorem rowB_inj {a b : Rw} (ha : a.Ok) (hb : b.Ok) (h : Sp.rowB a = Sp.rowB b) : a = b := by
  unfold Sp.rowB at h
  obtain ⟨h, h4⟩ := List.append_inj h (by simp [numB_len, intB_len])
  obtain ⟨h, h3⟩ := List.append_inj h (by simp [numB_len, intB_len])
  obtain ⟨h1, h2⟩ := List.append_inj h (by simp [numB_len])
  simp only [List.flatMap_cons, List.flatMap_nil, List.append_nil] at h4
  obtain ⟨h4, h5⟩ := List.append_inj h4 (by simp [numB_len])
  obtain ⟨h5, h6⟩ := List.append_inj h5 (by simp [numB_len])
  obtain ⟨h6, h7⟩ := List.append_inj h6 (by simp [numB_len])
  obtain ⟨h7, h8⟩ := List.append_inj h7 (by simp [numB_len])
  have e1 := numB_inj ha.num.tr hb.num.tr h1
  have e2 := time_inj ha.time hb.time h2
  have e3 := event_inj ha.event hb.event h3
  have e4 := numB_inj ha.num.am hb.num.am h4
  have e5 := numB_inj ha.num.dp hb.num.dp h5
  have e6 := numB_inj ha.num.dq hb.num.dq h6
  have e7 := numB_inj ha.num.cp hb.num.cp h7
  have e8 := numB_inj ha.num.cq hb.num.cq h8
  cases a; cases b
  simp_all
/-- Unlike rows with one hash: a clash. -/
theorem rleaf_coll {a b : Rw} {L : List (List Nat)} (ha : a.Ok) (hb : b.Ok) (hne : a ≠ b) (h : Sp.rleaf a = Sp.rleaf b) (h1 : 0 :: Sp.rowB a ∈ L) (h2 : 0 :: Sp.rowB b ∈ L) : Sp.Clash L :=
  leaf_coll h (fun e => hne (rowB_inj ha hb e)) h1 h2
def Sp.tame (r : Rw) : Rw := { r with time := (land64 r.time 65535 : Int), event := (land64 r.event 255 : Int) }
theorem tame_ok {r : Rw} (h : r.Num) : (Sp.tame r).Ok := by
  have := land64_le (a := r.time) (m := 65535) (by decide)
  have := land64_le (a := r.event) (m := 255) (by decide)
  exact ⟨⟨h.tr, h.am, h.dp, h.dq, h.cp, h.cq⟩, by simp only [Sp.tame]; omega, by simp only [Sp.tame]; omega⟩
set_option maxHeartbeats 4000000 in
theorem leaves_calls (B : Nat) (x y : Rw) (w : World) (hG0 : GH B w) (hBw : B ≤ w.heap.size) (hx : x.Num) (hy : y.Num) :
    CallsR Tryd.prog 5 #[rv x, rv y] w fun v w' => v = .bool true ∧ Chg w w' [] := by
  have hX : Chg w w [] := Chg.refl _ _
  have hG := hG0
  obtain ⟨p, hp⟩ : ∃ p, p = Sp.tame x := ⟨_, rfl⟩
  obtain ⟨q, hq⟩ : ∃ q, q = Sp.tame y := ⟨_, rfl⟩
  have okp : p.Ok := hp ▸ tame_ok hx
  have okq : q.Ok := hq ▸ tame_ok hy
  refine f_enter (l := [rv x, rv y]) Tryd.func5 rfl rfl rfl rfl ?_
  intro Qf hnrm hret
  refine c_seqreg (fun K1 hK1 => ?_)
  refine s_box rfl rfl rfl ?_
  intro b2 w00 e0_0 z0_0 hb2 X0_0
  have s0_0_hX := hX.size
  replace hG := hG.keep X0_0 (by simp)
  replace hX : Chg w _ [] := (hX.trans X0_0).mono (by intro k hk hlt; simp at hk ⊢ <;> first | omega | grind)
  replace hb2 : Blk w00 b2 (x.C) 34 := hb2
  refine s_box rfl rfl rfl ?_
  intro b3 w01 e0_1 z0_1 hb3 X0_1
  have s0_1_hX := hX.size
  have s0_1_hb2 := hb2.lt
  replace hG := hG.keep X0_1 (by simp)
  replace hX : Chg w _ [] := (hX.trans X0_1).mono (by intro k hk hlt; simp at hk ⊢ <;> first | omega | grind)
  replace hb2 := hb2.keep X0_1 (by simp)
  replace hb3 : Blk w01 b3 (y.C) 34 := hb3
  refine s_val rfl rfl (runs_assign rfl) ?_
  refine s_nil ?_
  have hl2 := hb2.lt
  have hl3 := hb3.lt
  refine hK1 _ _ ?_
  refine c_seq (fun K4 hK4 => ?_)
  refine c_seqreg (fun K5 hK5 => ?_)
  refine s_callf (xs := []) rfl rfl Tryd.func9 rfl (by kernel_rfl) rfl (fitR_calls B _ hG (by omega)) ?_
  rintro _ w1 ⟨rfl, X1_0, hG'⟩
  replace hG := hG.keep X1_0 (by simp)
  replace hX : Chg w _ [] := (hX.trans X1_0).mono (by intro k hk hlt; simp at hk ⊢ <;> first | omega | grind)
  replace hb2 := hb2.keep X1_0 (by simp)
  replace hb3 := hb3.keep X1_0 (by simp)
  have zs1_0 := X1_0.size
  refine s_val rfl rfl (runs_not rfl) ?_
  refine s_nil ?_
  refine hK5 _ _ ?_
  refine c_false rfl ?_
  refine c_skip ?_
  refine hK4 _ _ ?_
  refine c_seq (fun K7 hK7 => ?_)
  have hJ7 : ∀  (W : World), (GH B W ∧ Chg w W [] ∧ Blk W b2 p.C 34 ∧ Blk W b3 q.C 34) → ∀ ρ : Env, SubL ([(2, .pointer (some ⟨b2, 0, none⟩)), (3, .pointer (some ⟨b3, 0, none⟩))]) ρ → K7 ρ W := by
    intro  W hI ρ hρ
    refine hK7 _ _ (c_sub _ hρ ?_)
    clear hρ
    obtain ⟨hG, hX, hb2, hb3⟩ := hI
    have hzX := hX.size
    refine c_seqreg (fun K8 hK8 => ?_)
    refine s_val rfl rfl (runs_build_zeroS (xs := #[(0, 1)]) Tryd.underlying41 ty41 rfl (by kernel_rfl)) ?_
    refine s_box rfl rfl rfl ?_
    intro bt w5t e4_1 z4_1 hbt X4_1
    have s4_1_hX := hX.size
    have s4_1_hb2 := hb2.lt
    have s4_1_hb3 := hb3.lt
    replace hG := hG.keep X4_1 (by simp)
    replace hX : Chg w _ [] := (hX.trans X4_1).mono (by intro k hk hlt; simp at hk ⊢ <;> first | omega | grind)
    replace hb2 := hb2.keep X4_1 (by simp)
    replace hb3 := hb3.keep X4_1 (by simp)
    replace hbt : Blk w5t bt ([.slice none 0 0]) 41 := hbt
    have hlbt := hbt.lt
    have hT := TL.new (B := B) (lo := bt) hbt (by omega) (Nat.le_refl _)
    refine s_val rfl rfl (runs_assign rfl) ?_
    refine s_nil ?_
    refine hK8 _ _ ?_
    refine c_seq (fun K10 hK10 => ?_)
    have hJ10 : ∀ (b6 : Nat) (b7 : Nat) (hi : Nat) (vt : Value) (l : List Nat) (W : World), (GH B W ∧ Chg w W [] ∧ Blk W b2 p.C 34 ∧ Blk W b3 q.C 34 ∧ Blk W b6 (natsC .u8 (Sp.rleaf p)) 43 ∧ Blk W b7 (natsC .u8 (Sp.rleaf q)) 43 ∧ TL W B bt hi l bt vt [0 :: Sp.rowB p, 0 :: Sp.rowB q]) → ∀ ρ : Env, SubL ([(2, .pointer (some ⟨b2, 0, none⟩)), (3, .pointer (some ⟨b3, 0, none⟩)), (5, .pointer (some ⟨bt, 0, none⟩)), (6, .pointer (some ⟨b6, 0, none⟩)), (7, .pointer (some ⟨b7, 0, none⟩))]) ρ → K10 ρ W := by
      intro b6 b7 hi vt l W hI ρ hρ
      refine hK10 _ _ (c_sub _ hρ ?_)
      clear hρ
      obtain ⟨hG, hX, hb2, hb3, hb6, hb7, hT⟩ := hI
      have hzX := hX.size
      refine c_seq (fun K11 hK11 => ?_)
      by_cases hpq : p = q
      · refine c_seqreg (fun K12 hK12 => ?_)
        refine s_val rfl rfl (runs_loadAgg ty34 rfl hb2.at (Rw.len _)) ?_
        refine s_val rfl rfl (runs_loadAgg ty34 rfl hb3.at (Rw.len _)) ?_
        refine s_val rfl rfl (runs_dt (runs_row_eq rfl rfl) hpq) ?_
        refine s_nil ?_
        refine hK12 _ _ ?_
        refine c_true rfl ?_
        refine c_seqreg (fun K13 hK13 => ?_)
        refine s_val rfl rfl (runs_loadAgg ty43 rfl hb6.at (by rw [natsC_length, (rleaf_ok p).1])) ?_
        refine s_val rfl rfl (runs_loadAgg ty43 rfl hb7.at (by rw [natsC_length, (rleaf_ok q).1])) ?_
        refine s_val rfl rfl (runs_dt (runs_hv_eq rfl rfl (rleaf_ok p) (rleaf_ok q)) (by rw [hpq])) ?_
        refine s_val rfl rfl (runs_assign rfl) ?_
        refine s_nil ?_
        refine hK13 _ _ ?_
        refine c_ret ?_
        refine hret _ _ ?_
        exact ends1 (reads_tmp rfl) ⟨rfl, hX⟩
      · refine c_seqreg (fun K12 hK12 => ?_)
        refine s_val rfl rfl (runs_loadAgg ty34 rfl hb2.at (Rw.len _)) ?_
        refine s_val rfl rfl (runs_loadAgg ty34 rfl hb3.at (Rw.len _)) ?_
        refine s_val rfl rfl (runs_df (runs_row_eq rfl rfl) hpq) ?_
        refine s_nil ?_
        refine hK12 _ _ ?_
        refine c_false rfl ?_
        refine c_skip ?_
        refine hK11 _ _ ?_
        by_cases hxy : Sp.rleaf p = Sp.rleaf q
        · refine c_seqreg (fun K14 hK14 => ?_)
          refine s_val rfl rfl (runs_loadAgg ty43 rfl hb6.at (by rw [natsC_length, (rleaf_ok p).1])) ?_
          refine s_val rfl rfl (runs_loadAgg ty43 rfl hb7.at (by rw [natsC_length, (rleaf_ok q).1])) ?_
          refine s_val rfl rfl (runs_df (runs_hv_ne rfl rfl (rleaf_ok p) (rleaf_ok q)) (fun h => h hxy)) ?_
          refine s_val rfl rfl (runs_move rfl) ?_
          refine s_val rfl rfl (runs_move rfl) ?_
          refine s_callf (xs := [.tmp 44]) rfl rfl Tryd.func15 rfl (by kernel_rfl) rfl (hT.clash hG (by omega) (by intro z hz; simp at hz; rcases hz with rfl | rfl <;> simp [rowB_len])) ?_
          rintro _ wcl ⟨bc, rfl, hbc, Xcl⟩
          replace hG := hG.keep Xcl (by simp)
          replace hX : Chg w _ [] := (hX.trans Xcl).mono (by intro k hk hlt; simp at hk ⊢ <;> first | omega | grind)
          replace hb2 := hb2.keep Xcl (by simp)
          replace hb3 := hb3.keep Xcl (by simp)
          replace hb6 := hb6.keep Xcl (by simp)
          replace hb7 := hb7.keep Xcl (by simp)
          replace hT := hT.keep Xcl (by simp)
          have zs8_5 := Xcl.size
          obtain rfl := hbc.2 (rleaf_coll okp okq hpq hxy (by simp) (by simp))
          refine s_val rfl rfl (runs_pickf rfl rfl) ?_
          refine s_val rfl rfl (runs_assign rfl) ?_
          refine s_nil ?_
          refine hK14 _ _ ?_
          refine c_ret ?_
          refine hret _ _ ?_
          exact ends1 (reads_tmp rfl) ⟨rfl, hX⟩
        · refine c_seqreg (fun K14 hK14 => ?_)
          refine s_val rfl rfl (runs_loadAgg ty43 rfl hb6.at (by rw [natsC_length, (rleaf_ok p).1])) ?_
          refine s_val rfl rfl (runs_loadAgg ty43 rfl hb7.at (by rw [natsC_length, (rleaf_ok q).1])) ?_
          refine s_val rfl rfl (runs_dt (runs_hv_ne rfl rfl (rleaf_ok p) (rleaf_ok q)) hxy) ?_
          refine s_val rfl rfl (runs_move rfl) ?_
          refine s_skip rfl rfl ?_
          refine s_skip rfl rfl ?_
          refine s_val rfl rfl (runs_pickt rfl rfl) ?_
          refine s_val rfl rfl (runs_assign rfl) ?_
          refine s_nil ?_
          refine hK14 _ _ ?_
          refine c_ret ?_
          refine hret _ _ ?_
          exact ends1 (reads_tmp rfl) ⟨rfl, hX⟩
    refine c_drawX [] ([bt]) (by kernel_rfl) ?_
    intro wd5 Xd5 hS5
    replace hG := hG.keep Xd5 (by simp)
    replace hX : Chg w _ [] := (hX.trans Xd5).mono (by intro k hk hlt; simp at hk ⊢ <;> first | omega | grind)
    replace hb2 := hb2.keep Xd5 (by simp)
    replace hb3 := hb3.keep Xd5 (by simp)
    replace hbt := hbt.keep Xd5 (by simp)
    replace hT := hT.keep Xd5 (by simp)
    have zd5 := Xd5.size
    refine d_take 0 28 rfl (by kernel_rfl) rfl hS5 (fun wS hS => runs_move rfl) ?_
    refine d_take 1 29 rfl (by kernel_rfl) rfl hS5 (fun wS hS => runs_loadAgg ty34 rfl ((hb2.keep hS (by simp; omega)).at) (Rw.len _)) ?_
    refine d_take 3 31 rfl (by kernel_rfl) rfl hS5 (fun wS hS => runs_move rfl) ?_
    refine d_take 4 32 rfl (by kernel_rfl) rfl hS5 (fun wS hS => runs_loadAgg ty34 rfl ((hb3.keep hS (by simp; omega)).at) (Rw.len _)) ?_
    refine d_three 2 6 7 rfl rfl rfl (by kernel_rfl) ?_ ?_ ?_
    · refine s_callf (xs := [.tmp 28, .tmp 29]) rfl rfl Tryd.func14 rfl (by kernel_rfl) rfl (hT.rleaf [] (by simp) (hG.keep hS5 (by simp; omega)) (by have := hS5.size; omega) okp (by simp)) ?_
      rintro _ w52 ⟨rfl, vt52, hC52⟩
      have zs5_2 := hC52.chg.size
      have hT := hC52.tl
      have hz52 := hS5.size
      replace hS5 : Chg wd5 _ [bt] := (hS5.trans hC52.chg).mono (by intro k hk hlt; rcases List.mem_append.1 hk with hk | hk; exact hk; simpa [foot, Value.ownBlock] using hk)
      refine s_nil ⟨.inr hS5, ?_⟩
      refine d_three 5 6 7 rfl rfl rfl (by kernel_rfl) ?_ ?_ ?_
      · refine s_callf (xs := [.tmp 31, .tmp 32]) rfl rfl Tryd.func14 rfl (by kernel_rfl) rfl (hT.rleaf [] (by simp) (hG.keep hS5 (by simp; omega)) (by have := hS5.size; omega) okq (by simp)) ?_
        rintro _ w55 ⟨rfl, vt55, hC55⟩
        have zs5_5 := hC55.chg.size
        have hT := hC55.tl
        replace hS5 : Chg wd5 _ [bt] := (hS5.trans hC55.chg).mono (by intro k hk hlt; rcases List.mem_append.1 hk with hk | hk; exact hk; rcases hC52.new k hk with hk | hk; simpa [foot, Value.ownBlock] using hk; omega)
        refine s_nil ⟨.inr hS5, ?_⟩
        refine d_two 6 7 rfl rfl (by kernel_rfl) ?_ ?_
        · refine s_alloc ty43 rfl rfl ?_
          intro b6 w56 e56 z56 hb6 X5_6
          have htop := hT.top
          replace hT := (hT.keep0 X5_6).add [b6] (by simp; omega)
          have hz56 := hS5.size
          try (replace hb7 := hb7.keep X5_6 (by simp))
          replace hS5 : Chg wd5 _ ([bt]) := (hS5.trans X5_6).mono (by intro k hk hlt; simp at hk ⊢ <;> first | assumption | omega)
          refine s_nil ⟨.inr hS5, ?_⟩
          refine d_only 7 rfl (by kernel_rfl) ?_
          refine s_alloc ty43 rfl rfl ?_
          intro b7 w57 e57 z57 hb7 X5_7
          have htop := hT.top
          replace hT := (hT.keep0 X5_7).add [b7] (by simp; omega)
          have hz57 := hS5.size
          try (replace hb6 := hb6.keep X5_7 (by simp))
          replace hS5 : Chg wd5 _ ([bt]) := (hS5.trans X5_7).mono (by intro k hk hlt; simp at hk ⊢ <;> first | assumption | omega)
          refine s_nil ⟨.inr hS5, ?_⟩
          refine d_only 8 rfl (by kernel_rfl) ?_
          refine s_storeAll ty43 rfl rfl rfl hb6 (by rw [natsC_length, (rleaf_ok p).1]) rfl (natsC_one _ _) ?_
          intro w58 z5_8 h5_8 X5_8
          replace hT := hT.keep X5_8 (by simp [Rg] <;> omega)
          replace hb7 := hb7.keep X5_8 (by simp; omega)
          replace hb6 := h5_8
          replace hS5 : Chg wd5 _ ([bt]) := (hS5.trans X5_8).mono (by intro k hk hlt; simp at hk ⊢ <;> first | assumption | omega)
          refine s_nil ⟨.inr hS5, ?_⟩
          refine d_only 9 rfl (by kernel_rfl) ?_
          refine s_storeAll ty43 rfl rfl rfl hb7 (by rw [natsC_length, (rleaf_ok q).1]) rfl (natsC_one _ _) ?_
          intro w59 z5_9 h5_9 X5_9
          replace hT := hT.keep X5_9 (by simp [Rg] <;> omega)
          replace hb6 := hb6.keep X5_9 (by simp; omega)
          replace hb7 := h5_9
          replace hS5 : Chg wd5 _ ([bt]) := (hS5.trans X5_9).mono (by intro k hk hlt; simp at hk ⊢ <;> first | assumption | omega)
          refine s_nil ⟨.inr hS5, ?_⟩
          refine d_done (by kernel_rfl) ?_
          replace hG := hG.keep hS5 (by simp; omega)
          replace hX : Chg w _ [] := (hX.trans hS5).mono (by intro k hk hlt; simp at hk ⊢ <;> first | omega | grind)
          replace hb2 := hb2.keep hS5 (by simp; omega)
          replace hb3 := hb3.keep hS5 (by simp; omega)
          exact hJ10 b6 b7 _ _ _ _ ⟨hG, hX, hb2, hb3, hb6, hb7, hT⟩ _ ⟨rfl, rfl, rfl, rfl, rfl, trivial⟩
        · refine s_alloc ty43 rfl rfl ?_
          intro b7 w57 e57 z57 hb7 X5_7
          have htop := hT.top
          replace hT := (hT.keep0 X5_7).add [b7] (by simp; omega)
          have hz57 := hS5.size
          try (replace hb6 := hb6.keep X5_7 (by simp))
          replace hS5 : Chg wd5 _ ([bt]) := (hS5.trans X5_7).mono (by intro k hk hlt; simp at hk ⊢ <;> first | assumption | omega)
          refine s_nil ⟨.inr hS5, ?_⟩
          refine d_only 6 rfl (by kernel_rfl) ?_
          refine s_alloc ty43 rfl rfl ?_
          intro b6 w56 e56 z56 hb6 X5_6
          have htop := hT.top
          replace hT := (hT.keep0 X5_6).add [b6] (by simp; omega)
          have hz56 := hS5.size
          try (replace hb7 := hb7.keep X5_6 (by simp))
          replace hS5 : Chg wd5 _ ([bt]) := (hS5.trans X5_6).mono (by intro k hk hlt; simp at hk ⊢ <;> first | assumption | omega)
          refine s_nil ⟨.inr hS5, ?_⟩
          refine d_only 8 rfl (by kernel_rfl) ?_
          refine s_storeAll ty43 rfl rfl rfl hb6 (by rw [natsC_length, (rleaf_ok p).1]) rfl (natsC_one _ _) ?_
          intro w58 z5_8 h5_8 X5_8
          replace hT := hT.keep X5_8 (by simp [Rg] <;> omega)
          replace hb7 := hb7.keep X5_8 (by simp; omega)
          replace hb6 := h5_8
          replace hS5 : Chg wd5 _ ([bt]) := (hS5.trans X5_8).mono (by intro k hk hlt; simp at hk ⊢ <;> first | assumption | omega)
          refine s_nil ⟨.inr hS5, ?_⟩
          refine d_only 9 rfl (by kernel_rfl) ?_
          refine s_storeAll ty43 rfl rfl rfl hb7 (by rw [natsC_length, (rleaf_ok q).1]) rfl (natsC_one _ _) ?_
          intro w59 z5_9 h5_9 X5_9
          replace hT := hT.keep X5_9 (by simp [Rg] <;> omega)
          replace hb6 := hb6.keep X5_9 (by simp; omega)
          replace hb7 := h5_9
          replace hS5 : Chg wd5 _ ([bt]) := (hS5.trans X5_9).mono (by intro k hk hlt; simp at hk ⊢ <;> first | assumption | omega)
          refine s_nil ⟨.inr hS5, ?_⟩
          refine d_done (by kernel_rfl) ?_
          replace hG := hG.keep hS5 (by simp; omega)
          replace hX : Chg w _ [] := (hX.trans hS5).mono (by intro k hk hlt; simp at hk ⊢ <;> first | omega | grind)
          replace hb2 := hb2.keep hS5 (by simp; omega)
          replace hb3 := hb3.keep hS5 (by simp; omega)
          exact hJ10 b6 b7 _ _ _ _ ⟨hG, hX, hb2, hb3, hb6, hb7, hT⟩ _ ⟨rfl, rfl, rfl, rfl, rfl, trivial⟩
      · refine s_alloc ty43 rfl rfl ?_
        intro b6 w56 e56 z56 hb6 X5_6
        have htop := hT.top
        replace hT := (hT.keep0 X5_6).add [b6] (by simp; omega)
        have hz56 := hS5.size
        try (replace hb7 := hb7.keep X5_6 (by simp))
        replace hS5 : Chg wd5 _ ([bt]) := (hS5.trans X5_6).mono (by intro k hk hlt; simp at hk ⊢ <;> first | assumption | omega)
        refine s_nil ⟨.inr hS5, ?_⟩
        refine d_two 5 7 rfl rfl (by kernel_rfl) ?_ ?_
        · refine s_callf (xs := [.tmp 31, .tmp 32]) rfl rfl Tryd.func14 rfl (by kernel_rfl) rfl (hT.rleaf [] (by simp) (hG.keep hS5 (by simp; omega)) (by have := hS5.size; omega) okq (by simp)) ?_
          rintro _ w55 ⟨rfl, vt55, hC55⟩
          replace hb6 := hb6.keep hC55.chg (fun hm => by have h := hC55.ft _ hm; simp [Rg] at h <;> omega)
          have zs5_5 := hC55.chg.size
          have hT := hC55.tl
          replace hS5 : Chg wd5 _ [bt] := (hS5.trans hC55.chg).mono (by intro k hk hlt; rcases List.mem_append.1 hk with hk | hk; exact hk; rcases hC52.new k hk with hk | hk; simpa [foot, Value.ownBlock] using hk; omega)
          refine s_nil ⟨.inr hS5, ?_⟩
          refine d_only 7 rfl (by kernel_rfl) ?_
          refine s_alloc ty43 rfl rfl ?_
          intro b7 w57 e57 z57 hb7 X5_7
          have htop := hT.top
          replace hT := (hT.keep0 X5_7).add [b7] (by simp; omega)
          have hz57 := hS5.size
          try (replace hb6 := hb6.keep X5_7 (by simp))
          replace hS5 : Chg wd5 _ ([bt]) := (hS5.trans X5_7).mono (by intro k hk hlt; simp at hk ⊢ <;> first | assumption | omega)
          refine s_nil ⟨.inr hS5, ?_⟩
          refine d_only 8 rfl (by kernel_rfl) ?_
          refine s_storeAll ty43 rfl rfl rfl hb6 (by rw [natsC_length, (rleaf_ok p).1]) rfl (natsC_one _ _) ?_
          intro w58 z5_8 h5_8 X5_8
          replace hT := hT.keep X5_8 (by simp [Rg] <;> omega)
          replace hb7 := hb7.keep X5_8 (by simp; omega)
          replace hb6 := h5_8
          replace hS5 : Chg wd5 _ ([bt]) := (hS5.trans X5_8).mono (by intro k hk hlt; simp at hk ⊢ <;> first | assumption | omega)
          refine s_nil ⟨.inr hS5, ?_⟩
          refine d_only 9 rfl (by kernel_rfl) ?_
          refine s_storeAll ty43 rfl rfl rfl hb7 (by rw [natsC_length, (rleaf_ok q).1]) rfl (natsC_one _ _) ?_
          intro w59 z5_9 h5_9 X5_9
          replace hb6 := hb6.keep X5_9 (by simp; omega)
          replace hT := hT.keep X5_9 (by simp [Rg] <;> omega)
          replace hb7 := h5_9
          replace hS5 : Chg wd5 _ ([bt]) := (hS5.trans X5_9).mono (by intro k hk hlt; simp at hk ⊢ <;> first | assumption | omega)
          refine s_nil ⟨.inr hS5, ?_⟩
          refine d_done (by kernel_rfl) ?_
          replace hG := hG.keep hS5 (by simp; omega)
          replace hX : Chg w _ [] := (hX.trans hS5).mono (by intro k hk hlt; simp at hk ⊢ <;> first | omega | grind)
          replace hb2 := hb2.keep hS5 (by simp; omega)
          replace hb3 := hb3.keep hS5 (by simp; omega)
          exact hJ10 b6 b7 _ _ _ _ ⟨hG, hX, hb2, hb3, hb6, hb7, hT⟩ _ ⟨rfl, rfl, rfl, rfl, rfl, trivial⟩
        · refine s_alloc ty43 rfl rfl ?_
          intro b7 w57 e57 z57 hb7 X5_7
          have htop := hT.top
          replace hT := (hT.keep0 X5_7).add [b7] (by simp; omega)
          have hz57 := hS5.size
          try (replace hb6 := hb6.keep X5_7 (by simp))
          replace hS5 : Chg wd5 _ ([bt]) := (hS5.trans X5_7).mono (by intro k hk hlt; simp at hk ⊢ <;> first | assumption | omega)
          refine s_nil ⟨.inr hS5, ?_⟩
          refine d_only 5 rfl (by kernel_rfl) ?_
          refine s_callf (xs := [.tmp 31, .tmp 32]) rfl rfl Tryd.func14 rfl (by kernel_rfl) rfl (hT.rleaf [] (by simp) (hG.keep hS5 (by simp; omega)) (by have := hS5.size; omega) okq (by simp)) ?_
          rintro _ w55 ⟨rfl, vt55, hC55⟩
          replace hb6 := hb6.keep hC55.chg (fun hm => by have h := hC55.ft _ hm; simp [Rg] at h <;> omega)
          replace hb7 := hb7.keep hC55.chg (fun hm => by have h := hC55.ft _ hm; simp [Rg] at h <;> omega)
          have zs5_5 := hC55.chg.size
          have hT := hC55.tl
          replace hS5 : Chg wd5 _ [bt] := (hS5.trans hC55.chg).mono (by intro k hk hlt; rcases List.mem_append.1 hk with hk | hk; exact hk; rcases hC52.new k hk with hk | hk; simpa [foot, Value.ownBlock] using hk; omega)
          refine s_nil ⟨.inr hS5, ?_⟩
          refine d_only 8 rfl (by kernel_rfl) ?_
          refine s_storeAll ty43 rfl rfl rfl hb6 (by rw [natsC_length, (rleaf_ok p).1]) rfl (natsC_one _ _) ?_
          intro w58 z5_8 h5_8 X5_8
          replace hb7 := hb7.keep X5_8 (by simp; omega)
          replace hT := hT.keep X5_8 (by simp [Rg] <;> omega)
          replace hb6 := h5_8
          replace hS5 : Chg wd5 _ ([bt]) := (hS5.trans X5_8).mono (by intro k hk hlt; simp at hk ⊢ <;> first | assumption | omega)
          refine s_nil ⟨.inr hS5, ?_⟩
          refine d_only 9 rfl (by kernel_rfl) ?_
          refine s_storeAll ty43 rfl rfl rfl hb7 (by rw [natsC_length, (rleaf_ok q).1]) rfl (natsC_one _ _) ?_
          intro w59 z5_9 h5_9 X5_9
          replace hb6 := hb6.keep X5_9 (by simp; omega)
          replace hT := hT.keep X5_9 (by simp [Rg] <;> omega)
          replace hb7 := h5_9
          replace hS5 : Chg wd5 _ ([bt]) := (hS5.trans X5_9).mono (by intro k hk hlt; simp at hk ⊢ <;> first | assumption | omega)
          refine s_nil ⟨.inr hS5, ?_⟩
          refine d_done (by kernel_rfl) ?_
          replace hG := hG.keep hS5 (by simp; omega)
          replace hX : Chg w _ [] := (hX.trans hS5).mono (by intro k hk hlt; simp at hk ⊢ <;> first | omega | grind)
          replace hb2 := hb2.keep hS5 (by simp; omega)
          replace hb3 := hb3.keep hS5 (by simp; omega)
          exact hJ10 b6 b7 _ _ _ _ ⟨hG, hX, hb2, hb3, hb6, hb7, hT⟩ _ ⟨rfl, rfl, rfl, rfl, rfl, trivial⟩
      · refine s_alloc ty43 rfl rfl ?_
        intro b7 w57 e57 z57 hb7 X5_7
        have htop := hT.top
        replace hT := (hT.keep0 X5_7).add [b7] (by simp; omega)
        have hz57 := hS5.size
        try (replace hb6 := hb6.keep X5_7 (by simp))
        replace hS5 : Chg wd5 _ ([bt]) := (hS5.trans X5_7).mono (by intro k hk hlt; simp at hk ⊢ <;> first | assumption | omega)
        refine s_nil ⟨.inr hS5, ?_⟩
        refine d_two 5 6 rfl rfl (by kernel_rfl) ?_ ?_
        · refine s_callf (xs := [.tmp 31, .tmp 32]) rfl rfl Tryd.func14 rfl (by kernel_rfl) rfl (hT.rleaf [] (by simp) (hG.keep hS5 (by simp; omega)) (by have := hS5.size; omega) okq (by simp)) ?_
          rintro _ w55 ⟨rfl, vt55, hC55⟩
          replace hb7 := hb7.keep hC55.chg (fun hm => by have h := hC55.ft _ hm; simp [Rg] at h <;> omega)
          have zs5_5 := hC55.chg.size
          have hT := hC55.tl
          replace hS5 : Chg wd5 _ [bt] := (hS5.trans hC55.chg).mono (by intro k hk hlt; rcases List.mem_append.1 hk with hk | hk; exact hk; rcases hC52.new k hk with hk | hk; simpa [foot, Value.ownBlock] using hk; omega)
          refine s_nil ⟨.inr hS5, ?_⟩
          refine d_only 6 rfl (by kernel_rfl) ?_
          refine s_alloc ty43 rfl rfl ?_
          intro b6 w56 e56 z56 hb6 X5_6
          have htop := hT.top
          replace hT := (hT.keep0 X5_6).add [b6] (by simp; omega)
          have hz56 := hS5.size
          try (replace hb7 := hb7.keep X5_6 (by simp))
          replace hS5 : Chg wd5 _ ([bt]) := (hS5.trans X5_6).mono (by intro k hk hlt; simp at hk ⊢ <;> first | assumption | omega)
          refine s_nil ⟨.inr hS5, ?_⟩
          refine d_only 8 rfl (by kernel_rfl) ?_
          refine s_storeAll ty43 rfl rfl rfl hb6 (by rw [natsC_length, (rleaf_ok p).1]) rfl (natsC_one _ _) ?_
          intro w58 z5_8 h5_8 X5_8
          replace hb7 := hb7.keep X5_8 (by simp; omega)
          replace hT := hT.keep X5_8 (by simp [Rg] <;> omega)
          replace hb6 := h5_8
          replace hS5 : Chg wd5 _ ([bt]) := (hS5.trans X5_8).mono (by intro k hk hlt; simp at hk ⊢ <;> first | assumption | omega)
          refine s_nil ⟨.inr hS5, ?_⟩
          refine d_only 9 rfl (by kernel_rfl) ?_
          refine s_storeAll ty43 rfl rfl rfl hb7 (by rw [natsC_length, (rleaf_ok q).1]) rfl (natsC_one _ _) ?_
          intro w59 z5_9 h5_9 X5_9
          replace hT := hT.keep X5_9 (by simp [Rg] <;> omega)
          replace hb6 := hb6.keep X5_9 (by simp; omega)
          replace hb7 := h5_9
          replace hS5 : Chg wd5 _ ([bt]) := (hS5.trans X5_9).mono (by intro k hk hlt; simp at hk ⊢ <;> first | assumption | omega)
          refine s_nil ⟨.inr hS5, ?_⟩
          refine d_done (by kernel_rfl) ?_
          replace hG := hG.keep hS5 (by simp; omega)
          replace hX : Chg w _ [] := (hX.trans hS5).mono (by intro k hk hlt; simp at hk ⊢ <;> first | omega | grind)
          replace hb2 := hb2.keep hS5 (by simp; omega)
          replace hb3 := hb3.keep hS5 (by simp; omega)
          exact hJ10 b6 b7 _ _ _ _ ⟨hG, hX, hb2, hb3, hb6, hb7, hT⟩ _ ⟨rfl, rfl, rfl, rfl, rfl, trivial⟩
        · refine s_alloc ty43 rfl rfl ?_
          intro b6 w56 e56 z56 hb6 X5_6
          have htop := hT.top
          replace hT := (hT.keep0 X5_6).add [b6] (by simp; omega)
          have hz56 := hS5.size
          try (replace hb7 := hb7.keep X5_6 (by simp))
          replace hS5 : Chg wd5 _ ([bt]) := (hS5.trans X5_6).mono (by intro k hk hlt; simp at hk ⊢ <;> first | assumption | omega)
          refine s_nil ⟨.inr hS5, ?_⟩
          refine d_only 5 rfl (by kernel_rfl) ?_
          refine s_callf (xs := [.tmp 31, .tmp 32]) rfl rfl Tryd.func14 rfl (by kernel_rfl) rfl (hT.rleaf [] (by simp) (hG.keep hS5 (by simp; omega)) (by have := hS5.size; omega) okq (by simp)) ?_
          rintro _ w55 ⟨rfl, vt55, hC55⟩
          replace hb7 := hb7.keep hC55.chg (fun hm => by have h := hC55.ft _ hm; simp [Rg] at h <;> omega)
          replace hb6 := hb6.keep hC55.chg (fun hm => by have h := hC55.ft _ hm; simp [Rg] at h <;> omega)
          have zs5_5 := hC55.chg.size
          have hT := hC55.tl
          replace hS5 : Chg wd5 _ [bt] := (hS5.trans hC55.chg).mono (by intro k hk hlt; rcases List.mem_append.1 hk with hk | hk; exact hk; rcases hC52.new k hk with hk | hk; simpa [foot, Value.ownBlock] using hk; omega)
          refine s_nil ⟨.inr hS5, ?_⟩
          refine d_only 8 rfl (by kernel_rfl) ?_
          refine s_storeAll ty43 rfl rfl rfl hb6 (by rw [natsC_length, (rleaf_ok p).1]) rfl (natsC_one _ _) ?_
          intro w58 z5_8 h5_8 X5_8
          replace hb7 := hb7.keep X5_8 (by simp; omega)
          replace hT := hT.keep X5_8 (by simp [Rg] <;> omega)
          replace hb6 := h5_8
          replace hS5 : Chg wd5 _ ([bt]) := (hS5.trans X5_8).mono (by intro k hk hlt; simp at hk ⊢ <;> first | assumption | omega)
          refine s_nil ⟨.inr hS5, ?_⟩
          refine d_only 9 rfl (by kernel_rfl) ?_
          refine s_storeAll ty43 rfl rfl rfl hb7 (by rw [natsC_length, (rleaf_ok q).1]) rfl (natsC_one _ _) ?_
          intro w59 z5_9 h5_9 X5_9
          replace hb6 := hb6.keep X5_9 (by simp; omega)
          replace hT := hT.keep X5_9 (by simp [Rg] <;> omega)
          replace hb7 := h5_9
          replace hS5 : Chg wd5 _ ([bt]) := (hS5.trans X5_9).mono (by intro k hk hlt; simp at hk ⊢ <;> first | assumption | omega)
          refine s_nil ⟨.inr hS5, ?_⟩
          refine d_done (by kernel_rfl) ?_
          replace hG := hG.keep hS5 (by simp; omega)
          replace hX : Chg w _ [] := (hX.trans hS5).mono (by intro k hk hlt; simp at hk ⊢ <;> first | omega | grind)
          replace hb2 := hb2.keep hS5 (by simp; omega)
          replace hb3 := hb3.keep hS5 (by simp; omega)
          exact hJ10 b6 b7 _ _ _ _ ⟨hG, hX, hb2, hb3, hb6, hb7, hT⟩ _ ⟨rfl, rfl, rfl, rfl, rfl, trivial⟩
    · refine s_alloc ty43 rfl rfl ?_
      intro b6 w56 e56 z56 hb6 X5_6
      have htop := hT.top
      replace hT := (hT.keep0 X5_6).add [b6] (by simp; omega)
      have hz56 := hS5.size
      try (replace hb7 := hb7.keep X5_6 (by simp))
      replace hS5 : Chg wd5 _ ([bt]) := (hS5.trans X5_6).mono (by intro k hk hlt; simp at hk ⊢ <;> first | assumption | omega)
      refine s_nil ⟨.inr hS5, ?_⟩
      refine d_two 2 7 rfl rfl (by kernel_rfl) ?_ ?_
      · refine s_callf (xs := [.tmp 28, .tmp 29]) rfl rfl Tryd.func14 rfl (by kernel_rfl) rfl (hT.rleaf [] (by simp) (hG.keep hS5 (by simp; omega)) (by have := hS5.size; omega) okp (by simp)) ?_
        rintro _ w52 ⟨rfl, vt52, hC52⟩
        replace hb6 := hb6.keep hC52.chg (fun hm => by have h := hC52.ft _ hm; simp [Rg] at h <;> omega)
        have zs5_2 := hC52.chg.size
        have hT := hC52.tl
        have hz52 := hS5.size
        replace hS5 : Chg wd5 _ [bt] := (hS5.trans hC52.chg).mono (by intro k hk hlt; rcases List.mem_append.1 hk with hk | hk; exact hk; simpa [foot, Value.ownBlock] using hk)
        refine s_nil ⟨.inr hS5, ?_⟩
        refine d_two 5 7 rfl rfl (by kernel_rfl) ?_ ?_
        · refine s_callf (xs := [.tmp 31, .tmp 32]) rfl rfl Tryd.func14 rfl (by kernel_rfl) rfl (hT.rleaf [] (by simp) (hG.keep hS5 (by simp; omega)) (by have := hS5.size; omega) okq (by simp)) ?_
          rintro _ w55 ⟨rfl, vt55, hC55⟩
          replace hb6 := hb6.keep hC55.chg (fun hm => by have h := hC55.ft _ hm; simp [Rg] at h <;> omega)
          have zs5_5 := hC55.chg.size
          have hT := hC55.tl
          replace hS5 : Chg wd5 _ [bt] := (hS5.trans hC55.chg).mono (by intro k hk hlt; rcases List.mem_append.1 hk with hk | hk; exact hk; rcases hC52.new k hk with hk | hk; simpa [foot, Value.ownBlock] using hk; omega)
          refine s_nil ⟨.inr hS5, ?_⟩
          refine d_only 7 rfl (by kernel_rfl) ?_
          refine s_alloc ty43 rfl rfl ?_
          intro b7 w57 e57 z57 hb7 X5_7
          have htop := hT.top
          replace hT := (hT.keep0 X5_7).add [b7] (by simp; omega)
          have hz57 := hS5.size
          try (replace hb6 := hb6.keep X5_7 (by simp))
          replace hS5 : Chg wd5 _ ([bt]) := (hS5.trans X5_7).mono (by intro k hk hlt; simp at hk ⊢ <;> first | assumption | omega)
          refine s_nil ⟨.inr hS5, ?_⟩
          refine d_only 8 rfl (by kernel_rfl) ?_
          refine s_storeAll ty43 rfl rfl rfl hb6 (by rw [natsC_length, (rleaf_ok p).1]) rfl (natsC_one _ _) ?_
          intro w58 z5_8 h5_8 X5_8
          replace hT := hT.keep X5_8 (by simp [Rg] <;> omega)
          replace hb7 := hb7.keep X5_8 (by simp; omega)
          replace hb6 := h5_8
          replace hS5 : Chg wd5 _ ([bt]) := (hS5.trans X5_8).mono (by intro k hk hlt; simp at hk ⊢ <;> first | assumption | omega)
          refine s_nil ⟨.inr hS5, ?_⟩
          refine d_only 9 rfl (by kernel_rfl) ?_
          refine s_storeAll ty43 rfl rfl rfl hb7 (by rw [natsC_length, (rleaf_ok q).1]) rfl (natsC_one _ _) ?_
          intro w59 z5_9 h5_9 X5_9
          replace hb6 := hb6.keep X5_9 (by simp; omega)
          replace hT := hT.keep X5_9 (by simp [Rg] <;> omega)
          replace hb7 := h5_9
          replace hS5 : Chg wd5 _ ([bt]) := (hS5.trans X5_9).mono (by intro k hk hlt; simp at hk ⊢ <;> first | assumption | omega)
          refine s_nil ⟨.inr hS5, ?_⟩
          refine d_done (by kernel_rfl) ?_
          replace hG := hG.keep hS5 (by simp; omega)
          replace hX : Chg w _ [] := (hX.trans hS5).mono (by intro k hk hlt; simp at hk ⊢ <;> first | omega | grind)
          replace hb2 := hb2.keep hS5 (by simp; omega)
          replace hb3 := hb3.keep hS5 (by simp; omega)
          exact hJ10 b6 b7 _ _ _ _ ⟨hG, hX, hb2, hb3, hb6, hb7, hT⟩ _ ⟨rfl, rfl, rfl, rfl, rfl, trivial⟩
        · refine s_alloc ty43 rfl rfl ?_
          intro b7 w57 e57 z57 hb7 X5_7
          have htop := hT.top
          replace hT := (hT.keep0 X5_7).add [b7] (by simp; omega)
          have hz57 := hS5.size
          try (replace hb6 := hb6.keep X5_7 (by simp))
          replace hS5 : Chg wd5 _ ([bt]) := (hS5.trans X5_7).mono (by intro k hk hlt; simp at hk ⊢ <;> first | assumption | omega)
          refine s_nil ⟨.inr hS5, ?_⟩
          refine d_only 5 rfl (by kernel_rfl) ?_
          refine s_callf (xs := [.tmp 31, .tmp 32]) rfl rfl Tryd.func14 rfl (by kernel_rfl) rfl (hT.rleaf [] (by simp) (hG.keep hS5 (by simp; omega)) (by have := hS5.size; omega) okq (by simp)) ?_
          rintro _ w55 ⟨rfl, vt55, hC55⟩
          replace hb6 := hb6.keep hC55.chg (fun hm => by have h := hC55.ft _ hm; simp [Rg] at h <;> omega)
          replace hb7 := hb7.keep hC55.chg (fun hm => by have h := hC55.ft _ hm; simp [Rg] at h <;> omega)
          have zs5_5 := hC55.chg.size
          have hT := hC55.tl
          replace hS5 : Chg wd5 _ [bt] := (hS5.trans hC55.chg).mono (by intro k hk hlt; rcases List.mem_append.1 hk with hk | hk; exact hk; rcases hC52.new k hk with hk | hk; simpa [foot, Value.ownBlock] using hk; omega)
          refine s_nil ⟨.inr hS5, ?_⟩
          refine d_only 8 rfl (by kernel_rfl) ?_
          refine s_storeAll ty43 rfl rfl rfl hb6 (by rw [natsC_length, (rleaf_ok p).1]) rfl (natsC_one _ _) ?_
          intro w58 z5_8 h5_8 X5_8
          replace hb7 := hb7.keep X5_8 (by simp; omega)
          replace hT := hT.keep X5_8 (by simp [Rg] <;> omega)
          replace hb6 := h5_8
          replace hS5 : Chg wd5 _ ([bt]) := (hS5.trans X5_8).mono (by intro k hk hlt; simp at hk ⊢ <;> first | assumption | omega)
          refine s_nil ⟨.inr hS5, ?_⟩
          refine d_only 9 rfl (by kernel_rfl) ?_
          refine s_storeAll ty43 rfl rfl rfl hb7 (by rw [natsC_length, (rleaf_ok q).1]) rfl (natsC_one _ _) ?_
          intro w59 z5_9 h5_9 X5_9
          replace hb6 := hb6.keep X5_9 (by simp; omega)
          replace hT := hT.keep X5_9 (by simp [Rg] <;> omega)
          replace hb7 := h5_9
          replace hS5 : Chg wd5 _ ([bt]) := (hS5.trans X5_9).mono (by intro k hk hlt; simp at hk ⊢ <;> first | assumption | omega)
          refine s_nil ⟨.inr hS5, ?_⟩
          refine d_done (by kernel_rfl) ?_
          replace hG := hG.keep hS5 (by simp; omega)
          replace hX : Chg w _ [] := (hX.trans hS5).mono (by intro k hk hlt; simp at hk ⊢ <;> first | omega | grind)
          replace hb2 := hb2.keep hS5 (by simp; omega)
          replace hb3 := hb3.keep hS5 (by simp; omega)
          exact hJ10 b6 b7 _ _ _ _ ⟨hG, hX, hb2, hb3, hb6, hb7, hT⟩ _ ⟨rfl, rfl, rfl, rfl, rfl, trivial⟩
      · refine s_alloc ty43 rfl rfl ?_
        intro b7 w57 e57 z57 hb7 X5_7
        have htop := hT.top
        replace hT := (hT.keep0 X5_7).add [b7] (by simp; omega)
        have hz57 := hS5.size
        try (replace hb6 := hb6.keep X5_7 (by simp))
        replace hS5 : Chg wd5 _ ([bt]) := (hS5.trans X5_7).mono (by intro k hk hlt; simp at hk ⊢ <;> first | assumption | omega)
        refine s_nil ⟨.inr hS5, ?_⟩
        refine d_only 2 rfl (by kernel_rfl) ?_
        refine s_callf (xs := [.tmp 28, .tmp 29]) rfl rfl Tryd.func14 rfl (by kernel_rfl) rfl (hT.rleaf [] (by simp) (hG.keep hS5 (by simp; omega)) (by have := hS5.size; omega) okp (by simp)) ?_
        rintro _ w52 ⟨rfl, vt52, hC52⟩
        replace hb6 := hb6.keep hC52.chg (fun hm => by have h := hC52.ft _ hm; simp [Rg] at h <;> omega)
        replace hb7 := hb7.keep hC52.chg (fun hm => by have h := hC52.ft _ hm; simp [Rg] at h <;> omega)
        have zs5_2 := hC52.chg.size
        have hT := hC52.tl
        have hz52 := hS5.size
        replace hS5 : Chg wd5 _ [bt] := (hS5.trans hC52.chg).mono (by intro k hk hlt; rcases List.mem_append.1 hk with hk | hk; exact hk; simpa [foot, Value.ownBlock] using hk)
        refine s_nil ⟨.inr hS5, ?_⟩
        refine d_only 5 rfl (by kernel_rfl) ?_
        refine s_callf (xs := [.tmp 31, .tmp 32]) rfl rfl Tryd.func14 rfl (by kernel_rfl) rfl (hT.rleaf [] (by simp) (hG.keep hS5 (by simp; omega)) (by have := hS5.size; omega) okq (by simp)) ?_
        rintro _ w55 ⟨rfl, vt55, hC55⟩
        replace hb6 := hb6.keep hC55.chg (fun hm => by have h := hC55.ft _ hm; simp [Rg] at h <;> omega)
        replace hb7 := hb7.keep hC55.chg (fun hm => by have h := hC55.ft _ hm; simp [Rg] at h <;> omega)
        have zs5_5 := hC55.chg.size
        have hT := hC55.tl
        replace hS5 : Chg wd5 _ [bt] := (hS5.trans hC55.chg).mono (by intro k hk hlt; rcases List.mem_append.1 hk with hk | hk; exact hk; rcases hC52.new k hk with hk | hk; simpa [foot, Value.ownBlock] using hk; omega)
        refine s_nil ⟨.inr hS5, ?_⟩
        refine d_only 8 rfl (by kernel_rfl) ?_
        refine s_storeAll ty43 rfl rfl rfl hb6 (by rw [natsC_length, (rleaf_ok p).1]) rfl (natsC_one _ _) ?_
        intro w58 z5_8 h5_8 X5_8
        replace hb7 := hb7.keep X5_8 (by simp; omega)
        replace hT := hT.keep X5_8 (by simp [Rg] <;> omega)
        replace hb6 := h5_8
        replace hS5 : Chg wd5 _ ([bt]) := (hS5.trans X5_8).mono (by intro k hk hlt; simp at hk ⊢ <;> first | assumption | omega)
        refine s_nil ⟨.inr hS5, ?_⟩
        refine d_only 9 rfl (by kernel_rfl) ?_
        refine s_storeAll ty43 rfl rfl rfl hb7 (by rw [natsC_length, (rleaf_ok q).1]) rfl (natsC_one _ _) ?_
        intro w59 z5_9 h5_9 X5_9
        replace hb6 := hb6.keep X5_9 (by simp; omega)
        replace hT := hT.keep X5_9 (by simp [Rg] <;> omega)
        replace hb7 := h5_9
        replace hS5 : Chg wd5 _ ([bt]) := (hS5.trans X5_9).mono (by intro k hk hlt; simp at hk ⊢ <;> first | assumption | omega)
        refine s_nil ⟨.inr hS5, ?_⟩
        refine d_done (by kernel_rfl) ?_
        replace hG := hG.keep hS5 (by simp; omega)
        replace hX : Chg w _ [] := (hX.trans hS5).mono (by intro k hk hlt; simp at hk ⊢ <;> first | omega | grind)
        replace hb2 := hb2.keep hS5 (by simp; omega)
        replace hb3 := hb3.keep hS5 (by simp; omega)
        exact hJ10 b6 b7 _ _ _ _ ⟨hG, hX, hb2, hb3, hb6, hb7, hT⟩ _ ⟨rfl, rfl, rfl, rfl, rfl, trivial⟩
    · refine s_alloc ty43 rfl rfl ?_
      intro b7 w57 e57 z57 hb7 X5_7
      have htop := hT.top
      replace hT := (hT.keep0 X5_7).add [b7] (by simp; omega)
      have hz57 := hS5.size
      try (replace hb6 := hb6.keep X5_7 (by simp))
      replace hS5 : Chg wd5 _ ([bt]) := (hS5.trans X5_7).mono (by intro k hk hlt; simp at hk ⊢ <;> first | assumption | omega)
      refine s_nil ⟨.inr hS5, ?_⟩
      refine d_two 2 6 rfl rfl (by kernel_rfl) ?_ ?_
      · refine s_callf (xs := [.tmp 28, .tmp 29]) rfl rfl Tryd.func14 rfl (by kernel_rfl) rfl (hT.rleaf [] (by simp) (hG.keep hS5 (by simp; omega)) (by have := hS5.size; omega) okp (by simp)) ?_
        rintro _ w52 ⟨rfl, vt52, hC52⟩
        replace hb7 := hb7.keep hC52.chg (fun hm => by have h := hC52.ft _ hm; simp [Rg] at h <;> omega)
        have zs5_2 := hC52.chg.size
        have hT := hC52.tl
        have hz52 := hS5.size
        replace hS5 : Chg wd5 _ [bt] := (hS5.trans hC52.chg).mono (by intro k hk hlt; rcases List.mem_append.1 hk with hk | hk; exact hk; simpa [foot, Value.ownBlock] using hk)
        refine s_nil ⟨.inr hS5, ?_⟩
        refine d_two 5 6 rfl rfl (by kernel_rfl) ?_ ?_
        · refine s_callf (xs := [.tmp 31, .tmp 32]) rfl rfl Tryd.func14 rfl (by kernel_rfl) rfl (hT.rleaf [] (by simp) (hG.keep hS5 (by simp; omega)) (by have := hS5.size; omega) okq (by simp)) ?_
          rintro _ w55 ⟨rfl, vt55, hC55⟩
          replace hb7 := hb7.keep hC55.chg (fun hm => by have h := hC55.ft _ hm; simp [Rg] at h <;> omega)
          have zs5_5 := hC55.chg.size
          have hT := hC55.tl
          replace hS5 : Chg wd5 _ [bt] := (hS5.trans hC55.chg).mono (by intro k hk hlt; rcases List.mem_append.1 hk with hk | hk; exact hk; rcases hC52.new k hk with hk | hk; simpa [foot, Value.ownBlock] using hk; omega)
          refine s_nil ⟨.inr hS5, ?_⟩
          refine d_only 6 rfl (by kernel_rfl) ?_
          refine s_alloc ty43 rfl rfl ?_
          intro b6 w56 e56 z56 hb6 X5_6
          have htop := hT.top
          replace hT := (hT.keep0 X5_6).add [b6] (by simp; omega)
          have hz56 := hS5.size
          try (replace hb7 := hb7.keep X5_6 (by simp))
          replace hS5 : Chg wd5 _ ([bt]) := (hS5.trans X5_6).mono (by intro k hk hlt; simp at hk ⊢ <;> first | assumption | omega)
          refine s_nil ⟨.inr hS5, ?_⟩
          refine d_only 8 rfl (by kernel_rfl) ?_
          refine s_storeAll ty43 rfl rfl rfl hb6 (by rw [natsC_length, (rleaf_ok p).1]) rfl (natsC_one _ _) ?_
          intro w58 z5_8 h5_8 X5_8
          replace hb7 := hb7.keep X5_8 (by simp; omega)
          replace hT := hT.keep X5_8 (by simp [Rg] <;> omega)
          replace hb6 := h5_8
          replace hS5 : Chg wd5 _ ([bt]) := (hS5.trans X5_8).mono (by intro k hk hlt; simp at hk ⊢ <;> first | assumption | omega)
          refine s_nil ⟨.inr hS5, ?_⟩
          refine d_only 9 rfl (by kernel_rfl) ?_
          refine s_storeAll ty43 rfl rfl rfl hb7 (by rw [natsC_length, (rleaf_ok q).1]) rfl (natsC_one _ _) ?_
          intro w59 z5_9 h5_9 X5_9
          replace hT := hT.keep X5_9 (by simp [Rg] <;> omega)
          replace hb6 := hb6.keep X5_9 (by simp; omega)
          replace hb7 := h5_9
          replace hS5 : Chg wd5 _ ([bt]) := (hS5.trans X5_9).mono (by intro k hk hlt; simp at hk ⊢ <;> first | assumption | omega)
          refine s_nil ⟨.inr hS5, ?_⟩
          refine d_done (by kernel_rfl) ?_
          replace hG := hG.keep hS5 (by simp; omega)
          replace hX : Chg w _ [] := (hX.trans hS5).mono (by intro k hk hlt; simp at hk ⊢ <;> first | omega | grind)
          replace hb2 := hb2.keep hS5 (by simp; omega)
          replace hb3 := hb3.keep hS5 (by simp; omega)
          exact hJ10 b6 b7 _ _ _ _ ⟨hG, hX, hb2, hb3, hb6, hb7, hT⟩ _ ⟨rfl, rfl, rfl, rfl, rfl, trivial⟩
        · refine s_alloc ty43 rfl rfl ?_
          intro b6 w56 e56 z56 hb6 X5_6
          have htop := hT.top
          replace hT := (hT.keep0 X5_6).add [b6] (by simp; omega)
          have hz56 := hS5.size
          try (replace hb7 := hb7.keep X5_6 (by simp))
          replace hS5 : Chg wd5 _ ([bt]) := (hS5.trans X5_6).mono (by intro k hk hlt; simp at hk ⊢ <;> first | assumption | omega)
          refine s_nil ⟨.inr hS5, ?_⟩
          refine d_only 5 rfl (by kernel_rfl) ?_
          refine s_callf (xs := [.tmp 31, .tmp 32]) rfl rfl Tryd.func14 rfl (by kernel_rfl) rfl (hT.rleaf [] (by simp) (hG.keep hS5 (by simp; omega)) (by have := hS5.size; omega) okq (by simp)) ?_
          rintro _ w55 ⟨rfl, vt55, hC55⟩
          replace hb7 := hb7.keep hC55.chg (fun hm => by have h := hC55.ft _ hm; simp [Rg] at h <;> omega)
          replace hb6 := hb6.keep hC55.chg (fun hm => by have h := hC55.ft _ hm; simp [Rg] at h <;> omega)
          have zs5_5 := hC55.chg.size
          have hT := hC55.tl
          replace hS5 : Chg wd5 _ [bt] := (hS5.trans hC55.chg).mono (by intro k hk hlt; rcases List.mem_append.1 hk with hk | hk; exact hk; rcases hC52.new k hk with hk | hk; simpa [foot, Value.ownBlock] using hk; omega)
          refine s_nil ⟨.inr hS5, ?_⟩
          refine d_only 8 rfl (by kernel_rfl) ?_
          refine s_storeAll ty43 rfl rfl rfl hb6 (by rw [natsC_length, (rleaf_ok p).1]) rfl (natsC_one _ _) ?_
          intro w58 z5_8 h5_8 X5_8
          replace hb7 := hb7.keep X5_8 (by simp; omega)
          replace hT := hT.keep X5_8 (by simp [Rg] <;> omega)
          replace hb6 := h5_8
          replace hS5 : Chg wd5 _ ([bt]) := (hS5.trans X5_8).mono (by intro k hk hlt; simp at hk ⊢ <;> first | assumption | omega)
          refine s_nil ⟨.inr hS5, ?_⟩
          refine d_only 9 rfl (by kernel_rfl) ?_
          refine s_storeAll ty43 rfl rfl rfl hb7 (by rw [natsC_length, (rleaf_ok q).1]) rfl (natsC_one _ _) ?_
          intro w59 z5_9 h5_9 X5_9
          replace hb6 := hb6.keep X5_9 (by simp; omega)
          replace hT := hT.keep X5_9 (by simp [Rg] <;> omega)
          replace hb7 := h5_9
          replace hS5 : Chg wd5 _ ([bt]) := (hS5.trans X5_9).mono (by intro k hk hlt; simp at hk ⊢ <;> first | assumption | omega)
          refine s_nil ⟨.inr hS5, ?_⟩
          refine d_done (by kernel_rfl) ?_
          replace hG := hG.keep hS5 (by simp; omega)
          replace hX : Chg w _ [] := (hX.trans hS5).mono (by intro k hk hlt; simp at hk ⊢ <;> first | omega | grind)
          replace hb2 := hb2.keep hS5 (by simp; omega)
          replace hb3 := hb3.keep hS5 (by simp; omega)
          exact hJ10 b6 b7 _ _ _ _ ⟨hG, hX, hb2, hb3, hb6, hb7, hT⟩ _ ⟨rfl, rfl, rfl, rfl, rfl, trivial⟩
      · refine s_alloc ty43 rfl rfl ?_
        intro b6 w56 e56 z56 hb6 X5_6
        have htop := hT.top
        replace hT := (hT.keep0 X5_6).add [b6] (by simp; omega)
        have hz56 := hS5.size
        try (replace hb7 := hb7.keep X5_6 (by simp))
        replace hS5 : Chg wd5 _ ([bt]) := (hS5.trans X5_6).mono (by intro k hk hlt; simp at hk ⊢ <;> first | assumption | omega)
        refine s_nil ⟨.inr hS5, ?_⟩
        refine d_only 2 rfl (by kernel_rfl) ?_
        refine s_callf (xs := [.tmp 28, .tmp 29]) rfl rfl Tryd.func14 rfl (by kernel_rfl) rfl (hT.rleaf [] (by simp) (hG.keep hS5 (by simp; omega)) (by have := hS5.size; omega) okp (by simp)) ?_
        rintro _ w52 ⟨rfl, vt52, hC52⟩
        replace hb7 := hb7.keep hC52.chg (fun hm => by have h := hC52.ft _ hm; simp [Rg] at h <;> omega)
        replace hb6 := hb6.keep hC52.chg (fun hm => by have h := hC52.ft _ hm; simp [Rg] at h <;> omega)
        have zs5_2 := hC52.chg.size
        have hT := hC52.tl
        have hz52 := hS5.size
        replace hS5 : Chg wd5 _ [bt] := (hS5.trans hC52.chg).mono (by intro k hk hlt; rcases List.mem_append.1 hk with hk | hk; exact hk; simpa [foot, Value.ownBlock] using hk)
        refine s_nil ⟨.inr hS5, ?_⟩
        refine d_only 5 rfl (by kernel_rfl) ?_
        refine s_callf (xs := [.tmp 31, .tmp 32]) rfl rfl Tryd.func14 rfl (by kernel_rfl) rfl (hT.rleaf [] (by simp) (hG.keep hS5 (by simp; omega)) (by have := hS5.size; omega) okq (by simp)) ?_
        rintro _ w55 ⟨rfl, vt55, hC55⟩
        replace hb7 := hb7.keep hC55.chg (fun hm => by have h := hC55.ft _ hm; simp [Rg] at h <;> omega)
        replace hb6 := hb6.keep hC55.chg (fun hm => by have h := hC55.ft _ hm; simp [Rg] at h <;> omega)
        have zs5_5 := hC55.chg.size
        have hT := hC55.tl
        replace hS5 : Chg wd5 _ [bt] := (hS5.trans hC55.chg).mono (by intro k hk hlt; rcases List.mem_append.1 hk with hk | hk; exact hk; rcases hC52.new k hk with hk | hk; simpa [foot, Value.ownBlock] using hk; omega)
        refine s_nil ⟨.inr hS5, ?_⟩
        refine d_only 8 rfl (by kernel_rfl) ?_
        refine s_storeAll ty43 rfl rfl rfl hb6 (by rw [natsC_length, (rleaf_ok p).1]) rfl (natsC_one _ _) ?_
        intro w58 z5_8 h5_8 X5_8
        replace hb7 := hb7.keep X5_8 (by simp; omega)
        replace hT := hT.keep X5_8 (by simp [Rg] <;> omega)
        replace hb6 := h5_8
        replace hS5 : Chg wd5 _ ([bt]) := (hS5.trans X5_8).mono (by intro k hk hlt; simp at hk ⊢ <;> first | assumption | omega)
        refine s_nil ⟨.inr hS5, ?_⟩
        refine d_only 9 rfl (by kernel_rfl) ?_
        refine s_storeAll ty43 rfl rfl rfl hb7 (by rw [natsC_length, (rleaf_ok q).1]) rfl (natsC_one _ _) ?_
        intro w59 z5_9 h5_9 X5_9
        replace hb6 := hb6.keep X5_9 (by simp; omega)
        replace hT := hT.keep X5_9 (by simp [Rg] <;> omega)
        replace hb7 := h5_9
        replace hS5 : Chg wd5 _ ([bt]) := (hS5.trans X5_9).mono (by intro k hk hlt; simp at hk ⊢ <;> first | assumption | omega)
        refine s_nil ⟨.inr hS5, ?_⟩
        refine d_done (by kernel_rfl) ?_
        replace hG := hG.keep hS5 (by simp; omega)
        replace hX : Chg w _ [] := (hX.trans hS5).mono (by intro k hk hlt; simp at hk ⊢ <;> first | omega | grind)
        replace hb2 := hb2.keep hS5 (by simp; omega)
        replace hb3 := hb3.keep hS5 (by simp; omega)
        exact hJ10 b6 b7 _ _ _ _ ⟨hG, hX, hb2, hb3, hb6, hb7, hT⟩ _ ⟨rfl, rfl, rfl, rfl, rfl, trivial⟩
  refine c_drawX [17, 19] ([b2]) (by kernel_rfl) ?_
  intro wd3 Xd3 hS3
  replace hG := hG.keep Xd3 (by simp)
  replace hX : Chg w _ [] := (hX.trans Xd3).mono (by intro k hk hlt; simp at hk ⊢ <;> first | omega | grind)
  replace hb2 := hb2.keep Xd3 (by simp)
  replace hb3 := hb3.keep Xd3 (by simp)
  have zd3 := Xd3.size
  refine d_pure 0 10 rfl (by kernel_rfl) rfl (fun wS _ => runs_fieldAddr Tryd.underlying34 rfl ty3 (by decide) rfl) ?_
  refine d_pure 3 13 rfl (by kernel_rfl) rfl (fun wS _ => runs_fieldAddr Tryd.underlying34 rfl ty3 (by decide) rfl) ?_
  refine d_pure 6 16 rfl (by kernel_rfl) rfl (fun wS _ => runs_fieldAddr Tryd.underlying34 rfl ty3 (by decide) rfl) ?_
  refine d_take 7 17 rfl (by kernel_rfl) rfl hS3 (fun wS hS => runs_load1 ty3 rfl ((hb3.keep hS (by simp; omega)).cell (o := 2) rfl)) ?_
  refine d_pure 8 18 rfl (by kernel_rfl) rfl (fun wS _ => runs_and64 65535 rfl (by decide)) ?_
  refine d_pure 9 19 rfl (by kernel_rfl) rfl (fun wS _ => runs_fieldAddr Tryd.underlying34 rfl ty3 (by decide) rfl) ?_
  refine d_take 10 20 rfl (by kernel_rfl) rfl hS3 (fun wS hS => runs_load1 ty3 rfl ((hb3.keep hS (by simp; omega)).cell (o := 3) rfl)) ?_
  refine d_pure 11 21 rfl (by kernel_rfl) rfl (fun wS _ => runs_and64 255 rfl (by decide)) ?_
  refine d_two 1 4 rfl rfl (by kernel_rfl) ?_ ?_
  · refine s_val rfl rfl (runs_load1 ty3 rfl (hb2.cell (o := 2) rfl)) ?_
    refine s_nil ⟨.inr hS3, ?_⟩
    refine d_pure 2 12 rfl (by kernel_rfl) rfl (fun wS _ => runs_and64 65535 rfl (by decide)) ?_
    refine d_only 4 rfl (by kernel_rfl) ?_
    refine s_val rfl rfl (runs_load1 ty3 rfl (hb2.cell (o := 3) rfl)) ?_
    refine s_nil ⟨.inr hS3, ?_⟩
    refine d_pure 5 15 rfl (by kernel_rfl) rfl (fun wS _ => runs_and64 255 rfl (by decide)) ?_
    refine d_pure 12 22 rfl (by kernel_rfl) rfl (fun wS _ => runs_fieldAddr Tryd.underlying34 rfl ty3 (by decide) rfl) ?_
    refine d_only 13 rfl (by kernel_rfl) ?_
    refine s_store1 ty3 rfl rfl rfl hb2 (by rfl) (by simp [Rw.C]) ?_
    intro w313 z3_13 h3_13 X3_13
    replace hb2 := h3_13
    replace hS3 : Chg wd3 _ ([b2]) := (hS3.trans X3_13).mono (by intro k hk hlt; simp at hk ⊢ <;> first | assumption | omega)
    refine s_nil ⟨.inr hS3, ?_⟩
    refine d_pure 14 23 rfl (by kernel_rfl) rfl (fun wS _ => runs_fieldAddr Tryd.underlying34 rfl ty3 (by decide) rfl) ?_
    refine d_only 15 rfl (by kernel_rfl) ?_
    refine s_store1 ty3 rfl rfl rfl hb2 (by rfl) (by simp [Rw.C]) ?_
    intro w315 z3_15 h3_15 X3_15
    replace hb2 := h3_15
    replace hS3 : Chg wd3 _ ([b2]) := (hS3.trans X3_15).mono (by intro k hk hlt; simp at hk ⊢ <;> first | assumption | omega)
    refine s_nil ⟨.inr hS3, ?_⟩
    refine d_pure 16 24 rfl (by kernel_rfl) rfl (fun wS _ => runs_fieldAddr Tryd.underlying34 rfl ty3 (by decide) rfl) ?_
    refine d_only 17 rfl (by kernel_rfl) ?_
    replace hG := hG.keep hS3 (by simp; omega)
    replace hX : Chg w _ [] := (hX.trans hS3).mono (by intro k hk hlt; simp at hk ⊢ <;> first | omega | grind)
    replace hb3 := hb3.keep hS3 (by simp; omega)
    refine s_store1 ty3 rfl rfl rfl hb3 (by rfl) (by simp [Rw.C]) ?_
    intro w317 z3_17 h3_17 X3_17
    replace hG := hG.keep X3_17 (by simp; omega)
    replace hX : Chg w _ [] := (hX.trans X3_17).mono (by intro k hk hlt; simp at hk ⊢ <;> first | omega | grind)
    replace hb2 := hb2.keep X3_17 (by simp; omega)
    replace hb3 := h3_17
    refine s_nil ⟨.inl rfl, ?_⟩
    refine d_pure 18 25 rfl (by kernel_rfl) rfl (fun wS _ => runs_fieldAddr Tryd.underlying34 rfl ty3 (by decide) rfl) ?_
    refine d_only 19 rfl (by kernel_rfl) ?_
    refine s_store1 ty3 rfl rfl rfl hb3 (by rfl) (by simp [Rw.C]) ?_
    intro w319 z3_19 h3_19 X3_19
    replace hG := hG.keep X3_19 (by simp; omega)
    replace hX : Chg w _ [] := (hX.trans X3_19).mono (by intro k hk hlt; simp at hk ⊢ <;> first | omega | grind)
    replace hb2 := hb2.keep X3_19 (by simp; omega)
    replace hb3 := h3_19
    refine s_nil ⟨.inl rfl, ?_⟩
    refine d_done (by kernel_rfl) ?_
    subst hp hq
    exact hJ7 _ ⟨hG, hX, hb2, hb3⟩ _ ⟨rfl, rfl, trivial⟩
  · refine s_val rfl rfl (runs_load1 ty3 rfl (hb2.cell (o := 3) rfl)) ?_
    refine s_nil ⟨.inr hS3, ?_⟩
    refine d_pure 5 15 rfl (by kernel_rfl) rfl (fun wS _ => runs_and64 255 rfl (by decide)) ?_
    refine d_only 1 rfl (by kernel_rfl) ?_
    refine s_val rfl rfl (runs_load1 ty3 rfl (hb2.cell (o := 2) rfl)) ?_
    refine s_nil ⟨.inr hS3, ?_⟩
    refine d_pure 2 12 rfl (by kernel_rfl) rfl (fun wS _ => runs_and64 65535 rfl (by decide)) ?_
    refine d_pure 12 22 rfl (by kernel_rfl) rfl (fun wS _ => runs_fieldAddr Tryd.underlying34 rfl ty3 (by decide) rfl) ?_
    refine d_only 13 rfl (by kernel_rfl) ?_
    refine s_store1 ty3 rfl rfl rfl hb2 (by rfl) (by simp [Rw.C]) ?_
    intro w313 z3_13 h3_13 X3_13
    replace hb2 := h3_13
    replace hS3 : Chg wd3 _ ([b2]) := (hS3.trans X3_13).mono (by intro k hk hlt; simp at hk ⊢ <;> first | assumption | omega)
    refine s_nil ⟨.inr hS3, ?_⟩
    refine d_pure 14 23 rfl (by kernel_rfl) rfl (fun wS _ => runs_fieldAddr Tryd.underlying34 rfl ty3 (by decide) rfl) ?_
    refine d_only 15 rfl (by kernel_rfl) ?_
    refine s_store1 ty3 rfl rfl rfl hb2 (by rfl) (by simp [Rw.C]) ?_
    intro w315 z3_15 h3_15 X3_15
    replace hb2 := h3_15
    replace hS3 : Chg wd3 _ ([b2]) := (hS3.trans X3_15).mono (by intro k hk hlt; simp at hk ⊢ <;> first | assumption | omega)
    refine s_nil ⟨.inr hS3, ?_⟩
    refine d_pure 16 24 rfl (by kernel_rfl) rfl (fun wS _ => runs_fieldAddr Tryd.underlying34 rfl ty3 (by decide) rfl) ?_
    refine d_only 17 rfl (by kernel_rfl) ?_
    replace hG := hG.keep hS3 (by simp; omega)
    replace hX : Chg w _ [] := (hX.trans hS3).mono (by intro k hk hlt; simp at hk ⊢ <;> first | omega | grind)
    replace hb3 := hb3.keep hS3 (by simp; omega)
    refine s_store1 ty3 rfl rfl rfl hb3 (by rfl) (by simp [Rw.C]) ?_
    intro w317 z3_17 h3_17 X3_17
    replace hG := hG.keep X3_17 (by simp; omega)
    replace hX : Chg w _ [] := (hX.trans X3_17).mono (by intro k hk hlt; simp at hk ⊢ <;> first | omega | grind)
    replace hb2 := hb2.keep X3_17 (by simp; omega)
    replace hb3 := h3_17
    refine s_nil ⟨.inl rfl, ?_⟩
    refine d_pure 18 25 rfl (by kernel_rfl) rfl (fun wS _ => runs_fieldAddr Tryd.underlying34 rfl ty3 (by decide) rfl) ?_
    refine d_only 19 rfl (by kernel_rfl) ?_
    refine s_store1 ty3 rfl rfl rfl hb3 (by rfl) (by simp [Rw.C]) ?_
    intro w319 z3_19 h3_19 X3_19
    replace hG := hG.keep X3_19 (by simp; omega)
    replace hX : Chg w _ [] := (hX.trans X3_19).mono (by intro k hk hlt; simp at hk ⊢ <;> first | omega | grind)
    replace hb2 := hb2.keep X3_19 (by simp; omega)
    replace hb3 := h3_19
    refine s_nil ⟨.inl rfl, ?_⟩
    refine d_done (by kernel_rfl) ?_
    subst hp hq
    exact hJ7 _ ⟨hG, hX, hb2, hb3⟩ _ ⟨rfl, rfl, trivial⟩
end Go.Proofs.YtlkeofjgmegcfaaDoor
