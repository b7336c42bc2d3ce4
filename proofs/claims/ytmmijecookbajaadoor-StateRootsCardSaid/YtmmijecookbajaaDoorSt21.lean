/- Part St21 of the proofs on this seat. Conditions: none beyond those in the theorems. By an AI agent. -/
import Derived.Test.YtmmijecookbajaaDoorSt20
namespace Go.Proofs.YtmmijecookbajaaDoor
open Go Go.RowKit

theorem stray_succ (x y : Nm) (i : Nat) : Sp.stray x y (i + 1) = (Sp.stray x y i || decide (Sp.bit x i ≠ Sp.bit y i)) := by
  unfold Sp.stray
  rw [List.range_succ, List.any_append]; simp
theorem long_ok {id : Nm} {r : Ac} {m : Nat} : (Sp.aclimbR id true r (List.replicate m Sp.zero32)).2 = (decide (m ≤ 128) && !Sp.stray r.id id m) := by
  unfold Sp.aclimbR
  rw [List.length_replicate]
  by_cases h : 128 < m
  · rw [if_pos h]; simp; omega
  · rw [if_neg h, if_pos rfl]
    cases hs : Sp.stray r.id id m
    · simp; omega
    · simp
theorem long_is {id : Nm} {r : Ac} {m : Nat} : (Sp.aclimbR id false r (List.replicate m Sp.zero32)).2 = (decide (m ≤ 128) && decide (r = Sp.zeroA)) := by
  unfold Sp.aclimbR
  rw [List.length_replicate]
  by_cases h : 128 < m
  · rw [if_pos h]; simp; omega
  · rw [if_neg h, if_neg (by decide)]
    by_cases hz : r = Sp.zeroA
    · rw [if_neg (fun h => h hz)]; simp [hz]; omega
    · rw [if_pos hz]; simp [hz]
theorem aclimbR_ok {id : Nm} {th : Bool} {r : Ac} {path : List (List Nat)} : HOk (Sp.aclimbR id th r path).1 := by
  unfold Sp.aclimbR
  split
  · exact zero_ok
  · split
    · split
      · exact zero_ok
      · exact aclimb_ok id _ (aleaf_ok r) _ _
    · split
      · exact zero_ok
      · exact aclimb_ok id _ anone_ok _ _
set_option maxHeartbeats 4000000 in
theorem long_calls (B : Nat) (x : Ac) (id : Nm) (nz : Int) (w : World) (hG0 : GH B w) (hBw : B ≤ w.heap.size) (hx : x.Num) (hid : NOk id) :
    CallsR Tryd.prog 3 #[av x, nv id, .int .i64 nz] w fun v w' => v = .bool true ∧ Chg w w' [] := by
  have hX : Chg w w [] := Chg.refl _ _
  have hG := hG0
  obtain ⟨m, hm⟩ : ∃ m, m = land64 nz 255 % 140 + 1 := ⟨_, rfl⟩
  have hm140 : m ≤ 140 := by rw [hm]; omega
  have hrn := tameA_num hx
  obtain ⟨r, hr⟩ : ∃ r, r = Sp.tameA x := ⟨_, rfl⟩
  rw [← hr] at hrn
  refine f_enter (l := [av x, nv id, .int .i64 nz]) Tryd.func3 rfl rfl rfl rfl ?_
  intro Qf hnrm hret
  refine c_seqreg (fun K1 hK1 => ?_)
  refine s_box rfl rfl rfl ?_
  intro b3 w00 e0_0 z0_0 hb3 X0_0
  have s0_0_hX := hX.size
  replace hG := hG.keep X0_0 (by simp)
  replace hX : Chg w _ [] := (hX.trans X0_0).mono (by intro k hk hlt; simp at hk ⊢ <;> first | omega | grind)
  replace hb3 : Blk w00 b3 (x.C) 28 := hb3
  refine s_box rfl rfl rfl ?_
  intro b4 w01 e0_1 z0_1 hb4 X0_1
  have s0_1_hX := hX.size
  have s0_1_hb3 := hb3.lt
  replace hG := hG.keep X0_1 (by simp)
  replace hX : Chg w _ [] := (hX.trans X0_1).mono (by intro k hk hlt; simp at hk ⊢ <;> first | omega | grind)
  replace hb3 := hb3.keep X0_1 (by simp)
  replace hb4 : Blk w01 b4 (numC id) 24 := hb4
  refine s_val rfl rfl (runs_assign rfl) ?_
  refine s_nil ?_
  have hl3 := hb3.lt
  have hl4 := hb4.lt
  refine hK1 _ _ ?_
  refine c_seq (fun K4 hK4 => ?_)
  refine c_seqreg (fun K5 hK5 => ?_)
  refine s_callf (xs := []) rfl rfl Tryd.func10 rfl (by kernel_rfl) rfl (fit_calls B _ hG (by omega)) ?_
  rintro _ w1 ⟨rfl, X1_0⟩
  replace hG := hG.keep X1_0 (by simp)
  replace hX : Chg w _ [] := (hX.trans X1_0).mono (by intro k hk hlt; simp at hk ⊢ <;> first | omega | grind)
  replace hb3 := hb3.keep X1_0 (by simp)
  replace hb4 := hb4.keep X1_0 (by simp)
  have zs1_0 := X1_0.size
  refine s_val rfl rfl (runs_not rfl) ?_
  refine s_nil ?_
  refine hK5 _ _ ?_
  refine c_false rfl ?_
  refine c_skip ?_
  refine hK4 _ _ ?_
  refine c_seqreg (fun K7 hK7 => ?_)
  refine s_val rfl rfl (runs_loadAgg ty28 rfl hb3.at (Ac.len hx)) ?_
  refine s_callf (xs := [.tmp 16]) rfl rfl Tryd.func11 rfl (by kernel_rfl) rfl (tame_calls x _ hx) ?_
  rintro _ w31 ⟨rfl, X3_1⟩
  replace hG := hG.keep X3_1 (by simp)
  replace hX : Chg w _ [] := (hX.trans X3_1).mono (by intro k hk hlt; simp at hk ⊢ <;> first | omega | grind)
  replace hb3 := hb3.keep X3_1 (by simp)
  replace hb4 := hb4.keep X3_1 (by simp)
  have zs3_1 := X3_1.size
  rw [← hr]
  refine s_storeAll ty28 rfl rfl rfl hb3 (Ac.len hrn) (Ac.len hx) (Ac.one _) ?_
  intro w32 z3_2 h3_2 X3_2
  replace hG := hG.keep X3_2 (by simp; omega)
  replace hX : Chg w _ [] := (hX.trans X3_2).mono (by intro k hk hlt; simp at hk ⊢ <;> first | omega | grind)
  replace hb4 := hb4.keep X3_2 (by simp; omega)
  replace hb3 := h3_2
  refine s_nil ?_
  have hzX3 := hX.size
  refine hK7 _ _ ?_
  refine c_seqreg (fun K10 hK10 => ?_)
  refine s_val rfl rfl (runs_move rfl) ?_
  refine s_val rfl rfl (runs_and64 255 rfl (by decide)) ?_
  refine s_val rfl rfl (runs_as (v' := .int .i64 ((land64 nz 255 % 140 : Nat) : Int)) (runs_rem64 rfl rfl (by omega) (by omega)) (congrArg (Value.int .i64) (by simp))) ?_
  refine s_val rfl rfl (runs_as (v' := .int .i64 (m : Int)) (runs_add64 rfl rfl (by omega)) (congrArg (Value.int .i64) (by omega))) ?_
  refine s_val rfl rfl (runs_assign rfl) ?_
  refine s_nil ?_
  refine hK10 _ _ ?_
  refine c_seq (fun K11 hK11 => ?_)
  have hJ11 : ∀ (b7 : Nat) (b24 : Nat) (W : World), (GH B W ∧ Chg w W [] ∧ Blk W b3 r.C 28 ∧ Blk W b4 (numC id) 24 ∧ Blk W b7 (pfC true r (.slice (some ⟨b24, 0, none⟩) m m)) 33 ∧ HsR W (some ⟨b24, 0, none⟩) m m (List.replicate m Sp.zero32) ∧ b24 < W.heap.size) → ∀ ρ : Env, SubL ([(7, (.pointer (some ⟨b7, 0, none⟩))), (2, .int .i64 (m : Int)), (3, (.pointer (some ⟨b3, 0, none⟩))), (4, (.pointer (some ⟨b4, 0, none⟩)))]) ρ → K11 ρ W := by
    intro b7 b24 W hI ρ hρ
    refine hK11 _ _ (c_sub _ hρ ?_)
    clear hρ
    obtain ⟨hG, hX, hb3, hb4, hb7, hH, h24⟩ := hI
    have hzX5 := hX.size
    have hl3 := hb3.lt
    have hl4 := hb4.lt
    refine c_seqreg (fun K12 hK12 => ?_)
    refine s_val rfl rfl (runs_loadAgg ty24 rfl hb4.at (numC_len _)) ?_
    refine s_val rfl rfl (runs_loadAgg ty33 rfl hb7.at (pfC_len hrn)) ?_
    refine s_callf (xs := [.const (.pointer none), .tmp 27, .tmp 28]) rfl rfl Tryd.func12 rfl (by kernel_rfl) rfl (climbS0 hG (by omega) hid hrn hH (fun p hp => by cases hp; exact h24) (by omega)) ?_
    rintro _ w62 ⟨rfl, X6_2⟩
    replace hG := hG.keep X6_2 (by simp)
    replace hX : Chg w _ [] := (hX.trans X6_2).mono (by intro k hk hlt; simp at hk ⊢ <;> first | omega | grind)
    replace hb3 := hb3.keep X6_2 (by simp)
    replace hb4 := hb4.keep X6_2 (by simp)
    have zs6_2 := X6_2.size
    obtain ⟨okv, hokv⟩ : ∃ b, b = (Sp.aclimbR id true r (List.replicate m Sp.zero32)).2 := ⟨_, rfl⟩
    obtain ⟨hv1, hhv1⟩ : ∃ h, h = (Sp.aclimbR id true r (List.replicate m Sp.zero32)).1 := ⟨_, rfl⟩
    have okh1 : HOk hv1 := by rw [hhv1]; exact aclimbR_ok
    rw [← hokv, ← hhv1]
    rw [long_ok] at hokv
    refine s_val rfl rfl (runs_move rfl) ?_
    refine s_val rfl rfl (runs_extract rfl rfl) ?_
    refine s_val rfl rfl (runs_extract rfl rfl) ?_
    refine s_alloc ty26 rfl rfl ?_
    intro b8 w66 e6_6 z6_6 hb8 X6_6
    have s6_6_hX := hX.size
    have s6_6_hb3 := hb3.lt
    have s6_6_hb4 := hb4.lt
    replace hG := hG.keep X6_6 (by simp)
    replace hX : Chg w _ [] := (hX.trans X6_6).mono (by intro k hk hlt; simp at hk ⊢ <;> first | omega | grind)
    replace hb3 := hb3.keep X6_6 (by simp)
    replace hb4 := hb4.keep X6_6 (by simp)
    refine s_storeAll ty26 rfl rfl rfl hb8 (by rw [natsC_length, okh1.1]) rfl (natsC_one _ _) ?_
    intro w67 z6_7 h6_7 X6_7
    replace hG := hG.keep X6_7 (by simp; omega)
    replace hX : Chg w _ [] := (hX.trans X6_7).mono (by intro k hk hlt; simp at hk ⊢ <;> first | omega | grind)
    replace hb3 := hb3.keep X6_7 (by simp; omega)
    replace hb4 := hb4.keep X6_7 (by simp; omega)
    replace hb8 := h6_7
    refine s_val rfl rfl (runs_assign rfl) ?_
    refine s_nil ?_
    have hzX6 := hX.size
    refine hK12 _ _ ?_
    refine c_seqreg (fun K16 hK16 => ?_)
    refine s_val rfl rfl (runs_assign rfl) ?_
    refine s_nil ?_
    refine hK16 _ _ ?_
    refine c_seq (fun K17 hK17 => ?_)
    refine c_seqreg (fun K18 hK18 => ?_)
    refine s_val rfl rfl (runs_move rfl) ?_
    refine s_val rfl rfl (runs_as (v' := .int .i64 ((min m 128 : Nat) : Int)) (runs_min rfl rfl) (congrArg (Value.int .i64) (by split <;> omega))) ?_
    refine s_val rfl rfl (runs_move rfl) ?_
    refine s_nil ?_
    obtain ⟨mm, hmm⟩ : ∃ k, k = min m 128 := ⟨_, rfl⟩
    rw [← hmm]
    have hmm1 : mm ≤ 128 := by omega
    obtain ⟨w8, hw8⟩ : ∃ W : World, W = w67 := ⟨_, rfl⟩
    rw [← hw8] at hX hG hb3 hb4 hzX6 ⊢
    have X8 : Chg w8 w8 [] := Chg.refl _ _
    refine hK18 _ _ ?_
    refine c_block ?_
    refine c_loop (σ := Nat × Bool) (fun s => [(34, .int .i64 (s.1 : Int)), (33, .int .i64 (mm : Int)), (10, .bool s.2), (9, .bool okv), (2, .int .i64 (m : Int)), (3, (.pointer (some ⟨b3, 0, none⟩))), (4, (.pointer (some ⟨b4, 0, none⟩)))]) (fun s W => s.1 ≤ mm ∧ s.2 = Sp.stray r.id id s.1 ∧ Chg w8 W []) (fun s => mm - s.1) (0, false) ⟨rfl, rfl, rfl, rfl, rfl, rfl, rfl, trivial⟩ ⟨Nat.zero_le _, rfl, X8⟩ ?_
    rintro ⟨i, tb⟩ wi ⟨hi, htb, X8⟩
    dsimp only at hi htb ⊢
    have hzX8 := X8.size
    refine c_seqreg (fun K19 hK19 => ?_)
    refine s_val rfl rfl (runs_lt rfl rfl) ?_
    refine s_nil ?_
    refine hK19 _ _ ?_
    refine c_seq (fun K20 hK20 => ?_)
    refine c_dec rfl (fun him => ?_) (fun him => ?_)
    · refine c_skip ?_
      refine hK20 _ _ ?_
      refine c_seq (fun K21 hK21 => ?_)
      refine c_block ?_
      refine c_seqreg (fun K22 hK22 => ?_)
      refine s_val rfl rfl (runs_move rfl) ?_
      refine s_val rfl rfl (runs_assign rfl) ?_
      refine s_nil ?_
      refine hK22 _ _ ?_
      have hnx0 := stray_succ r.id id i
      rw [← htb] at hnx0
      cases tb with
      | true => ?_
      | false => ?_
      · refine c_drawX [] ([]) (by kernel_rfl) ?_
        intro wd11 Xd11 hS11
        replace X8 : Chg w8 _ [] := (X8.trans Xd11).mono (by intro k hk hlt; simp at hk ⊢ <;> first | omega | grind)
        have zd11 := Xd11.size
        refine d_take 0 37 rfl (by kernel_rfl) rfl hS11 (fun wS hS => runs_move rfl) ?_
        refine d_take 1 38 rfl (by kernel_rfl) rfl hS11 (fun wS hS => runs_move rfl) ?_
        refine d_takeskip 2 39 rfl (by kernel_rfl) rfl hS11 ?_
        refine d_takeskip 3 40 rfl (by kernel_rfl) rfl hS11 ?_
        refine d_takeskip 4 41 rfl (by kernel_rfl) rfl hS11 ?_
        refine d_takeskip 5 42 rfl (by kernel_rfl) rfl hS11 ?_
        refine d_takeskip 6 43 rfl (by kernel_rfl) rfl hS11 ?_
        refine d_takeskip 7 44 rfl (by kernel_rfl) rfl hS11 ?_
        refine d_takeskip 8 45 rfl (by kernel_rfl) rfl hS11 ?_
        refine d_takeskip 9 46 rfl (by kernel_rfl) rfl hS11 ?_
        refine d_take 10 47 rfl (by kernel_rfl) rfl hS11 (fun wS hS => runs_pickt rfl rfl) ?_
        refine d_take 11 10 rfl (by kernel_rfl) rfl hS11 (fun wS hS => runs_assign rfl) ?_
        refine d_done (by kernel_rfl) ?_
        replace X8 : Chg w8 _ [] := (X8.trans hS11).mono (by intro k hk hlt; simp at hk ⊢ <;> first | omega | grind)
        have hnx : true = Sp.stray r.id id (i + 1) := by rw [hnx0]; rfl
        refine hK21 _ _ ?_
        refine c_reg ?_
        refine s_val rfl rfl (runs_add64 rfl rfl (by omega)) ?_
        refine s_val rfl rfl (runs_move rfl) ?_
        refine s_nil ?_
        dsimp only [Post.setN]
        exact ⟨(i + 1, _), ⟨rfl, rfl, rfl, rfl, rfl, rfl, rfl, trivial⟩, ⟨by dsimp only; omega, hnx, X8⟩, by dsimp only; omega⟩
      · refine c_drawX [] ([]) (by kernel_rfl) ?_
        intro wd11 Xd11 hS11
        replace X8 : Chg w8 _ [] := (X8.trans Xd11).mono (by intro k hk hlt; simp at hk ⊢ <;> first | omega | grind)
        have zd11 := Xd11.size
        refine d_take 0 37 rfl (by kernel_rfl) rfl hS11 (fun wS hS => runs_move rfl) ?_
        refine d_take 1 38 rfl (by kernel_rfl) rfl hS11 (fun wS hS => runs_move rfl) ?_
        refine d_take 2 39 rfl (by kernel_rfl) rfl hS11 (fun wS hS => runs_fieldAddr Tryd.underlying28 rfl ty24 (by decide) rfl) ?_
        refine d_take 3 40 rfl (by kernel_rfl) rfl hS11 (fun wS hS => runs_loadAgg ty24 rfl (((hb3.keep X8 (by simp)).keep hS (by simp)).at.sub 0 2) (by rfl)) ?_
        refine d_take 4 41 rfl (by kernel_rfl) rfl hS11 (fun wS hS => runs_move rfl) ?_
        refine d_take 6 43 rfl (by kernel_rfl) rfl hS11 (fun wS hS => runs_loadAgg ty24 rfl ((hb4.keep X8 (by simp)).keep hS (by simp)).at (numC_len _)) ?_
        refine d_take 7 44 rfl (by kernel_rfl) rfl hS11 (fun wS hS => runs_move rfl) ?_
        refine d_only 5 rfl (by kernel_rfl) ?_
        refine s_callf (xs := [.tmp 40, .tmp 41]) rfl rfl Tryd.func13 rfl (by kernel_rfl) rfl (bit_calls r.id i _ hrn.id (by omega)) ?_
        rintro _ w115 ⟨rfl, X11_5⟩
        have zs11_5 := X11_5.size
        replace hS11 : Chg wd11 _ [] := hS11.trans X11_5
        refine s_nil ⟨.inr hS11, ?_⟩
        refine d_only 8 rfl (by kernel_rfl) ?_
        refine s_callf (xs := [.tmp 43, .tmp 44]) rfl rfl Tryd.func13 rfl (by kernel_rfl) rfl (bit_calls id i _ hid (by omega)) ?_
        rintro _ w118 ⟨rfl, X11_8⟩
        have zs11_8 := X11_8.size
        replace hS11 : Chg wd11 _ [] := hS11.trans X11_8
        refine s_nil ⟨.inr hS11, ?_⟩
        refine d_take 9 46 rfl (by kernel_rfl) rfl hS11 (fun wS hS => runs_ned rfl rfl) ?_
        refine d_take 10 47 rfl (by kernel_rfl) rfl hS11 (fun wS hS => runs_pickf rfl rfl) ?_
        refine d_take 11 10 rfl (by kernel_rfl) rfl hS11 (fun wS hS => runs_assign rfl) ?_
        refine d_done (by kernel_rfl) ?_
        replace X8 : Chg w8 _ [] := (X8.trans hS11).mono (by intro k hk hlt; simp at hk ⊢ <;> first | omega | grind)
        have hnx : decide ((Sp.bit r.id i : Int) ≠ (Sp.bit id i : Int)) = Sp.stray r.id id (i + 1) := by rw [hnx0, Bool.false_or]; exact decide_eq_decide.2 (by omega)
        refine hK21 _ _ ?_
        refine c_reg ?_
        refine s_val rfl rfl (runs_add64 rfl rfl (by omega)) ?_
        refine s_val rfl rfl (runs_move rfl) ?_
        refine s_nil ?_
        dsimp only [Post.setN]
        exact ⟨(i + 1, _), ⟨rfl, rfl, rfl, rfl, rfl, rfl, rfl, trivial⟩, ⟨by dsimp only; omega, hnx, X8⟩, by dsimp only; omega⟩
    · obtain rfl : mm = i := by omega
      replace hX := hX.trans X8
      replace hG := hG.keep X8 (by simp)
      replace hb3 := hb3.keep X8 (by simp)
      replace hb4 := hb4.keep X8 (by simp)
      replace hX : Chg w wi [] := hX.mono (by simp)
      refine c_exit ?_
      refine hK17 _ _ ?_
      refine c_seq (fun K25 hK25 => ?_)
      have hJ25 : ∀ (isv : Bool) (W : World), (isv = (decide (m ≤ 128) && decide (r = Sp.zeroA)) ∧ Chg w W [] ∧ Blk W b3 r.C 28) → ∀ ρ : Env, SubL ([(13, .bool isv), (9, .bool okv), (10, .bool tb), (2, .int .i64 (m : Int)), (3, (.pointer (some ⟨b3, 0, none⟩)))]) ρ → K25 ρ W := by
        intro isv W hI ρ hρ
        refine hK25 _ _ (c_sub _ hρ ?_)
        clear hρ
        obtain ⟨his, hX, hb3⟩ := hI
        rcases Decidable.em (m ≤ 128) with hm8 | hm8
        · refine c_seqreg (fun K26 hK26 => ?_)
          refine s_val rfl rfl (runs_move rfl) ?_
          refine s_val rfl rfl (runs_move rfl) ?_
          refine s_val rfl rfl (runs_dt (runs_le rfl rfl) (by omega)) ?_
          refine s_val rfl rfl (runs_move rfl) ?_
          refine s_val rfl rfl (runs_move rfl) ?_
          refine s_val rfl rfl (runs_not rfl) ?_
          refine s_val rfl rfl (runs_pickt rfl rfl) ?_
          refine s_val rfl rfl (runs_dt (runs_bool_eq Tryd.underlying4 rfl rfl) (by rw [hokv, htb, decide_eq_true hm8, Bool.true_and]; congr 2; omega)) ?_
          refine s_val rfl rfl (runs_move rfl) ?_
          refine s_val rfl rfl (runs_move rfl) ?_
          refine s_val rfl rfl (runs_move rfl) ?_
          refine s_val rfl rfl (runs_dt (runs_le rfl rfl) (by omega)) ?_
          refine s_val rfl rfl (runs_move rfl) ?_
          refine s_val rfl rfl (runs_loadAgg ty28 rfl hb3.at (Ac.len hrn)) ?_
          refine s_val rfl rfl (runs_buildv (v := av Sp.zeroA) [] rfl (by kernel_rfl)) ?_
          refine s_val rfl rfl (runs_acc_eq rfl rfl hrn zeroA_num) ?_
          refine s_val rfl rfl (runs_pickt rfl rfl) ?_
          refine s_val rfl rfl (runs_dt (runs_bool_eq Tryd.underlying4 rfl rfl) (by rw [his, decide_eq_true hm8, Bool.true_and])) ?_
          refine s_val rfl rfl (runs_pickt rfl rfl) ?_
          refine s_val rfl rfl (runs_assign rfl) ?_
          refine s_nil ?_
          refine hK26 _ _ ?_
          refine c_ret ?_
          refine hret _ _ ?_
          exact ends1 (reads_tmp rfl) ⟨rfl, hX⟩
        · refine c_seqreg (fun K26 hK26 => ?_)
          refine s_val rfl rfl (runs_move rfl) ?_
          refine s_val rfl rfl (runs_move rfl) ?_
          refine s_val rfl rfl (runs_df (runs_le rfl rfl) (by omega)) ?_
          refine s_val rfl rfl (runs_move rfl) ?_
          refine s_skip rfl rfl ?_
          refine s_skip rfl rfl ?_
          refine s_val rfl rfl (runs_pickf rfl rfl) ?_
          refine s_val rfl rfl (runs_dt (runs_bool_eq Tryd.underlying4 rfl rfl) (by rw [hokv, decide_eq_false hm8]; rfl)) ?_
          refine s_val rfl rfl (runs_move rfl) ?_
          refine s_val rfl rfl (runs_move rfl) ?_
          refine s_val rfl rfl (runs_move rfl) ?_
          refine s_val rfl rfl (runs_df (runs_le rfl rfl) (by omega)) ?_
          refine s_val rfl rfl (runs_move rfl) ?_
          refine s_skip rfl rfl ?_
          refine s_skip rfl rfl ?_
          refine s_skip rfl rfl ?_
          refine s_val rfl rfl (runs_pickf rfl rfl) ?_
          refine s_val rfl rfl (runs_dt (runs_bool_eq Tryd.underlying4 rfl rfl) (by rw [his, decide_eq_false hm8]; rfl)) ?_
          refine s_val rfl rfl (runs_pickt rfl rfl) ?_
          refine s_val rfl rfl (runs_assign rfl) ?_
          refine s_nil ?_
          refine hK26 _ _ ?_
          refine c_ret ?_
          refine hret _ _ ?_
          exact ends1 (reads_tmp rfl) ⟨rfl, hX⟩
      refine c_drawX [] ([]) (by kernel_rfl) ?_
      intro wd13 Xd13 hS13
      replace hG := hG.keep Xd13 (by simp)
      replace hX : Chg w _ [] := (hX.trans Xd13).mono (by intro k hk hlt; simp at hk ⊢ <;> first | omega | grind)
      replace hb3 := hb3.keep Xd13 (by simp)
      replace hb4 := hb4.keep Xd13 (by simp)
      have zd13 := Xd13.size
      refine d_take 0 50 rfl (by kernel_rfl) rfl hS13 (fun wS hS => runs_loadAgg ty24 rfl ((hb4.keep hS (by simp)).at) (numC_len _)) ?_
      refine d_take 1 51 rfl (by kernel_rfl) rfl hS13 (fun wS hS => runs_loadAgg ty28 rfl ((hb3.keep hS (by simp)).at) (Ac.len hrn)) ?_
      refine d_take 2 52 rfl (by kernel_rfl) rfl hS13 (fun wS hS => runs_move rfl) ?_
      refine d_two 3 9 rfl rfl (by kernel_rfl) ?_ ?_
      · refine s_makeF m Tryd.underlying31 ty26 rfl rfl rfl rfl (by omega) (by simp only [maxLen]; omega) ?_
        intro b53 w133 e13_3 z13_3 hb53 X13_3
        have hHb53 := made_hs hb53 (by simp only [maxLen]; omega)
        try replace hb7 := hb7.keep X13_3 (by simp)
        try replace hb12 := hb12.keep X13_3 (by simp)
        replace hS13 : Chg wd13 _ [] := hS13.trans X13_3
        refine s_nil ⟨.inr hS13, ?_⟩
        refine d_take 4 54 rfl (by kernel_rfl) rfl hS13 (fun wS hS => runs_buildv (v := pfv false r (.slice (some ⟨b53, 0, none⟩) m m)) [(1, av r), (2, .slice (some ⟨b53, 0, none⟩) m m)] rfl (build_pf0 hrn)) ?_
        refine d_two 5 9 rfl rfl (by kernel_rfl) ?_ ?_
        · refine s_callf (xs := [.const (.pointer none), .tmp 50, .tmp 54]) rfl rfl Tryd.func12 rfl (by kernel_rfl) rfl (climbS0 (hG.keep hS13 (by simp)) (by have := hS13.size; omega) hid hrn hHb53 (fun p hp => by cases hp; simp only; omega) (by omega)) ?_
          rintro _ w135 ⟨rfl, X13_5⟩
          have zs13_5 := X13_5.size
          obtain ⟨isv, hisv⟩ : ∃ b, b = (Sp.aclimbR id false r (List.replicate m Sp.zero32)).2 := ⟨_, rfl⟩
          obtain ⟨hv2, hhv2⟩ : ∃ h, h = (Sp.aclimbR id false r (List.replicate m Sp.zero32)).1 := ⟨_, rfl⟩
          have okh2 : HOk hv2 := by rw [hhv2]; exact aclimbR_ok
          rw [← hisv, ← hhv2]
          rw [long_is] at hisv
          replace hS13 : Chg wd13 _ [] := hS13.trans X13_5
          refine s_nil ⟨.inr hS13, ?_⟩
          refine d_take 6 49 rfl (by kernel_rfl) rfl hS13 (fun wS hS => runs_move rfl) ?_
          refine d_take 7 56 rfl (by kernel_rfl) rfl hS13 (fun wS hS => runs_extract rfl rfl) ?_
          refine d_take 8 57 rfl (by kernel_rfl) rfl hS13 (fun wS hS => runs_extract rfl rfl) ?_
          refine d_only 9 rfl (by kernel_rfl) ?_
          refine s_alloc ty26 rfl rfl ?_
          intro b12 w139 e13_9 z13_9 hb12 X13_9
          replace hS13 : Chg wd13 _ [] := hS13.trans X13_9
          refine s_nil ⟨.inr hS13, ?_⟩
          refine d_only 10 rfl (by kernel_rfl) ?_
          refine s_storeAll ty26 rfl rfl rfl hb12 (by rw [natsC_length, okh2.1]) rfl (natsC_one _ _) ?_
          intro w1310 z13_10 h13_10 X13_10
          replace hb12 := h13_10
          replace hS13 : Chg wd13 _ [] := (hS13.trans X13_10).mono (by intro k hk hlt; simp at hk; omega)
          refine s_nil ⟨.inr hS13, ?_⟩
          refine d_take 11 13 rfl (by kernel_rfl) rfl hS13 (fun wS hS => runs_assign rfl) ?_
          refine d_done (by kernel_rfl) ?_
          replace hG := hG.keep hS13 (by simp)
          replace hX : Chg w _ [] := (hX.trans hS13).mono (by intro k hk hlt; simp at hk ⊢ <;> first | omega | grind)
          replace hb3 := hb3.keep hS13 (by simp)
          replace hb4 := hb4.keep hS13 (by simp)
          exact hJ25 isv _ ⟨hisv, hX, hb3⟩ _ ⟨rfl, rfl, rfl, rfl, rfl, trivial⟩
        · refine s_alloc ty26 rfl rfl ?_
          intro b12 w139 e13_9 z13_9 hb12 X13_9
          replace hHb53 := hHb53.keep0 X13_9
          replace hS13 : Chg wd13 _ [] := hS13.trans X13_9
          refine s_nil ⟨.inr hS13, ?_⟩
          refine d_only 5 rfl (by kernel_rfl) ?_
          refine s_callf (xs := [.const (.pointer none), .tmp 50, .tmp 54]) rfl rfl Tryd.func12 rfl (by kernel_rfl) rfl (climbS0 (hG.keep hS13 (by simp)) (by have := hS13.size; omega) hid hrn hHb53 (fun p hp => by cases hp; simp only; omega) (by omega)) ?_
          rintro _ w135 ⟨rfl, X13_5⟩
          replace hb12 := hb12.keep X13_5 (by simp)
          have zs13_5 := X13_5.size
          obtain ⟨isv, hisv⟩ : ∃ b, b = (Sp.aclimbR id false r (List.replicate m Sp.zero32)).2 := ⟨_, rfl⟩
          obtain ⟨hv2, hhv2⟩ : ∃ h, h = (Sp.aclimbR id false r (List.replicate m Sp.zero32)).1 := ⟨_, rfl⟩
          have okh2 : HOk hv2 := by rw [hhv2]; exact aclimbR_ok
          rw [← hisv, ← hhv2]
          rw [long_is] at hisv
          replace hS13 : Chg wd13 _ [] := hS13.trans X13_5
          refine s_nil ⟨.inr hS13, ?_⟩
          refine d_take 6 49 rfl (by kernel_rfl) rfl hS13 (fun wS hS => runs_move rfl) ?_
          refine d_take 7 56 rfl (by kernel_rfl) rfl hS13 (fun wS hS => runs_extract rfl rfl) ?_
          refine d_take 8 57 rfl (by kernel_rfl) rfl hS13 (fun wS hS => runs_extract rfl rfl) ?_
          refine d_only 10 rfl (by kernel_rfl) ?_
          refine s_storeAll ty26 rfl rfl rfl hb12 (by rw [natsC_length, okh2.1]) rfl (natsC_one _ _) ?_
          intro w1310 z13_10 h13_10 X13_10
          replace hb12 := h13_10
          replace hS13 : Chg wd13 _ [] := (hS13.trans X13_10).mono (by intro k hk hlt; simp at hk; omega)
          refine s_nil ⟨.inr hS13, ?_⟩
          refine d_take 11 13 rfl (by kernel_rfl) rfl hS13 (fun wS hS => runs_assign rfl) ?_
          refine d_done (by kernel_rfl) ?_
          replace hG := hG.keep hS13 (by simp)
          replace hX : Chg w _ [] := (hX.trans hS13).mono (by intro k hk hlt; simp at hk ⊢ <;> first | omega | grind)
          replace hb3 := hb3.keep hS13 (by simp)
          replace hb4 := hb4.keep hS13 (by simp)
          exact hJ25 isv _ ⟨hisv, hX, hb3⟩ _ ⟨rfl, rfl, rfl, rfl, rfl, trivial⟩
      · refine s_alloc ty26 rfl rfl ?_
        intro b12 w139 e13_9 z13_9 hb12 X13_9
        replace hS13 : Chg wd13 _ [] := hS13.trans X13_9
        refine s_nil ⟨.inr hS13, ?_⟩
        refine d_only 3 rfl (by kernel_rfl) ?_
        refine s_makeF m Tryd.underlying31 ty26 rfl rfl rfl rfl (by omega) (by simp only [maxLen]; omega) ?_
        intro b53 w133 e13_3 z13_3 hb53 X13_3
        have hHb53 := made_hs hb53 (by simp only [maxLen]; omega)
        try replace hb7 := hb7.keep X13_3 (by simp)
        try replace hb12 := hb12.keep X13_3 (by simp)
        replace hS13 : Chg wd13 _ [] := hS13.trans X13_3
        refine s_nil ⟨.inr hS13, ?_⟩
        refine d_take 4 54 rfl (by kernel_rfl) rfl hS13 (fun wS hS => runs_buildv (v := pfv false r (.slice (some ⟨b53, 0, none⟩) m m)) [(1, av r), (2, .slice (some ⟨b53, 0, none⟩) m m)] rfl (build_pf0 hrn)) ?_
        refine d_only 5 rfl (by kernel_rfl) ?_
        refine s_callf (xs := [.const (.pointer none), .tmp 50, .tmp 54]) rfl rfl Tryd.func12 rfl (by kernel_rfl) rfl (climbS0 (hG.keep hS13 (by simp)) (by have := hS13.size; omega) hid hrn hHb53 (fun p hp => by cases hp; simp only; omega) (by omega)) ?_
        rintro _ w135 ⟨rfl, X13_5⟩
        replace hb12 := hb12.keep X13_5 (by simp)
        have zs13_5 := X13_5.size
        obtain ⟨isv, hisv⟩ : ∃ b, b = (Sp.aclimbR id false r (List.replicate m Sp.zero32)).2 := ⟨_, rfl⟩
        obtain ⟨hv2, hhv2⟩ : ∃ h, h = (Sp.aclimbR id false r (List.replicate m Sp.zero32)).1 := ⟨_, rfl⟩
        have okh2 : HOk hv2 := by rw [hhv2]; exact aclimbR_ok
        rw [← hisv, ← hhv2]
        rw [long_is] at hisv
        replace hS13 : Chg wd13 _ [] := hS13.trans X13_5
        refine s_nil ⟨.inr hS13, ?_⟩
        refine d_take 6 49 rfl (by kernel_rfl) rfl hS13 (fun wS hS => runs_move rfl) ?_
        refine d_take 7 56 rfl (by kernel_rfl) rfl hS13 (fun wS hS => runs_extract rfl rfl) ?_
        refine d_take 8 57 rfl (by kernel_rfl) rfl hS13 (fun wS hS => runs_extract rfl rfl) ?_
        refine d_only 10 rfl (by kernel_rfl) ?_
        refine s_storeAll ty26 rfl rfl rfl hb12 (by rw [natsC_length, okh2.1]) rfl (natsC_one _ _) ?_
        intro w1310 z13_10 h13_10 X13_10
        replace hb12 := h13_10
        replace hS13 : Chg wd13 _ [] := (hS13.trans X13_10).mono (by intro k hk hlt; simp at hk; omega)
        refine s_nil ⟨.inr hS13, ?_⟩
        refine d_take 11 13 rfl (by kernel_rfl) rfl hS13 (fun wS hS => runs_assign rfl) ?_
        refine d_done (by kernel_rfl) ?_
        replace hG := hG.keep hS13 (by simp)
        replace hX : Chg w _ [] := (hX.trans hS13).mono (by intro k hk hlt; simp at hk ⊢ <;> first | omega | grind)
        replace hb3 := hb3.keep hS13 (by simp)
        replace hb4 := hb4.keep hS13 (by simp)
        exact hJ25 isv _ ⟨hisv, hX, hb3⟩ _ ⟨rfl, rfl, rfl, rfl, rfl, trivial⟩
  refine c_drawX [5] ([]) (by kernel_rfl) ?_
  intro wd5 Xd5 hS5
  replace hG := hG.keep Xd5 (by simp)
  replace hX : Chg w _ [] := (hX.trans Xd5).mono (by intro k hk hlt; simp at hk ⊢ <;> first | omega | grind)
  replace hb3 := hb3.keep Xd5 (by simp)
  replace hb4 := hb4.keep Xd5 (by simp)
  have zd5 := Xd5.size
  refine d_take 0 22 rfl (by kernel_rfl) rfl hS5 (fun wS hS => runs_loadAgg ty28 rfl ((hb3.keep hS (by simp)).at) (Ac.len hrn)) ?_
  refine d_take 1 23 rfl (by kernel_rfl) rfl hS5 (fun wS hS => runs_move rfl) ?_
  refine d_two 2 4 rfl rfl (by kernel_rfl) ?_ ?_
  · refine s_makeF m Tryd.underlying31 ty26 rfl rfl rfl rfl (by omega) (by simp only [maxLen]; omega) ?_
    intro b24 w52 e5_2 z5_2 hb24 X5_2
    have hHb24 := made_hs hb24 (by simp only [maxLen]; omega)
    try replace hb7 := hb7.keep X5_2 (by simp)
    try replace hb12 := hb12.keep X5_2 (by simp)
    replace hS5 : Chg wd5 _ [] := hS5.trans X5_2
    refine s_nil ⟨.inr hS5, ?_⟩
    refine d_take 3 25 rfl (by kernel_rfl) rfl hS5 (fun wS hS => runs_buildv (v := pfv true r (.slice (some ⟨b24, 0, none⟩) m m)) [(0, .bool true), (1, av r), (2, .slice (some ⟨b24, 0, none⟩) m m)] rfl (build_pf hrn)) ?_
    refine d_only 4 rfl (by kernel_rfl) ?_
    refine s_alloc ty33 rfl rfl ?_
    intro b7 w54 e5_4 z5_4 hb7 X5_4
    replace hHb24 := hHb24.keep0 X5_4
    replace hS5 : Chg wd5 _ [] := hS5.trans X5_4
    refine s_nil ⟨.inr hS5, ?_⟩
    refine d_only 5 rfl (by kernel_rfl) ?_
    replace hG := hG.keep hS5 (by simp)
    replace hX : Chg w _ [] := (hX.trans hS5).mono (by intro k hk hlt; simp at hk ⊢ <;> first | omega | grind)
    replace hb3 := hb3.keep hS5 (by simp)
    replace hb4 := hb4.keep hS5 (by simp)
    refine s_storeAll ty33 rfl rfl rfl hb7 (pfC_len hrn) rfl (pfC_one rfl) ?_
    intro w55 z5_5 h5_5 X5_5
    replace hG := hG.keep X5_5 (by simp; omega)
    replace hX : Chg w _ [] := (hX.trans X5_5).mono (by intro k hk hlt; simp at hk ⊢ <;> first | omega | grind)
    replace hb3 := hb3.keep X5_5 (by simp; omega)
    replace hb4 := hb4.keep X5_5 (by simp; omega)
    replace hHb24 := hHb24.keep X5_5 (fun p hp => by cases hp; simp; omega)
    replace hb7 := h5_5
    refine s_nil ⟨.inl rfl, ?_⟩
    refine d_done (by kernel_rfl) ?_
    exact hJ11 b7 b24 _ ⟨hG, hX, hb3, hb4, hb7, hHb24, by omega⟩ _ ⟨rfl, rfl, rfl, rfl, trivial⟩
  · refine s_alloc ty33 rfl rfl ?_
    intro b7 w54 e5_4 z5_4 hb7 X5_4
    replace hS5 : Chg wd5 _ [] := hS5.trans X5_4
    refine s_nil ⟨.inr hS5, ?_⟩
    refine d_only 2 rfl (by kernel_rfl) ?_
    refine s_makeF m Tryd.underlying31 ty26 rfl rfl rfl rfl (by omega) (by simp only [maxLen]; omega) ?_
    intro b24 w52 e5_2 z5_2 hb24 X5_2
    have hHb24 := made_hs hb24 (by simp only [maxLen]; omega)
    try replace hb7 := hb7.keep X5_2 (by simp)
    try replace hb12 := hb12.keep X5_2 (by simp)
    replace hS5 : Chg wd5 _ [] := hS5.trans X5_2
    refine s_nil ⟨.inr hS5, ?_⟩
    refine d_take 3 25 rfl (by kernel_rfl) rfl hS5 (fun wS hS => runs_buildv (v := pfv true r (.slice (some ⟨b24, 0, none⟩) m m)) [(0, .bool true), (1, av r), (2, .slice (some ⟨b24, 0, none⟩) m m)] rfl (build_pf hrn)) ?_
    refine d_only 5 rfl (by kernel_rfl) ?_
    replace hG := hG.keep hS5 (by simp)
    replace hX : Chg w _ [] := (hX.trans hS5).mono (by intro k hk hlt; simp at hk ⊢ <;> first | omega | grind)
    replace hb3 := hb3.keep hS5 (by simp)
    replace hb4 := hb4.keep hS5 (by simp)
    refine s_storeAll ty33 rfl rfl rfl hb7 (pfC_len hrn) rfl (pfC_one rfl) ?_
    intro w55 z5_5 h5_5 X5_5
    replace hG := hG.keep X5_5 (by simp; omega)
    replace hX : Chg w _ [] := (hX.trans X5_5).mono (by intro k hk hlt; simp at hk ⊢ <;> first | omega | grind)
    replace hb3 := hb3.keep X5_5 (by simp; omega)
    replace hb4 := hb4.keep X5_5 (by simp; omega)
    replace hHb24 := hHb24.keep X5_5 (fun p hp => by cases hp; simp; omega)
    replace hb7 := h5_5
    refine s_nil ⟨.inl rfl, ?_⟩
    refine d_done (by kernel_rfl) ?_
    exact hJ11 b7 b24 _ ⟨hG, hX, hb3, hb4, hb7, hHb24, by omega⟩ _ ⟨rfl, rfl, rfl, rfl, trivial⟩
end Go.Proofs.YtmmijecookbajaaDoor
