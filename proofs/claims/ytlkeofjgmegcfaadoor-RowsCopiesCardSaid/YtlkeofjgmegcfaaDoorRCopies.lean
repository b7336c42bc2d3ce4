/- Part RCopies of the proofs on this seat. Conditions: none beyond those in the theorems. By an AI agent. -/
import Derived.Test.YtlkeofjgmegcfaaDoorRSpans
namespace Go.Proofs.YtlkeofjgmegcfaaDoor
open Go Go.RowKit

def Sp.last (r : Rw) : Rw := { r with time := 1000, event := (land64 r.event 255 : Int) }
theorem last_ok {r : Rw} (h : r.Num) : (Sp.last r).Ok := by
  have := land64_le (a := r.event) (m := 255) (by decide)
  exact ⟨⟨h.tr, h.am, h.dp, h.dq, h.cp, h.cq⟩, by simp only [Sp.last]; omega, by simp only [Sp.last]; omega⟩
set_option maxHeartbeats 4000000 in
theorem copies_calls (B : Nat) (ls : List Rw) (a : Option Addr) (n c : Nat) (x : Rw) (w : World) (hG0 : GH B w) (hBw : B ≤ w.heap.size) (hR : RowsR w a n c ls) (hx : x.Num) :
    CallsR Tryd.prog 6 #[.slice a n c, rv x] w fun v w' => v = .bool true ∧ Chg w w' [] := by
  have hX : Chg w w [] := Chg.refl _ _
  have hG := hG0
  have hlen := hR.len
  obtain ⟨z, hz⟩ : ∃ z, z = Sp.last x := ⟨_, rfl⟩
  have okz : z.Ok := hz ▸ last_ok hx
  refine f_enter (l := [.slice a n c, rv x]) Tryd.func6 rfl rfl rfl rfl ?_
  intro Qf hnrm hret
  refine c_seqreg (fun K1 hK1 => ?_)
  refine s_box rfl rfl rfl ?_
  intro b3 w00 e0_0 z0_0 hb3 X0_0
  have s0_0_hX := hX.size
  replace hG := hG.keep X0_0 (by simp)
  replace hX : Chg w _ [] := (hX.trans X0_0).mono (by intro k hk hlt; simp at hk ⊢ <;> first | omega | grind)
  replace hb3 : Blk w00 b3 (x.C) 34 := hb3
  refine s_val rfl rfl (runs_assign rfl) ?_
  refine s_nil ?_
  have hl3 := hb3.lt
  refine hK1 _ _ ?_
  refine c_seq (fun K3 hK3 => ?_)
  refine c_seqreg (fun K4 hK4 => ?_)
  refine s_callf (xs := []) rfl rfl Tryd.func9 rfl (by kernel_rfl) rfl (fitR_calls B _ hG (by omega)) ?_
  rintro _ w1 ⟨rfl, X1_0, hG'⟩
  replace hG := hG.keep X1_0 (by simp)
  replace hX : Chg w _ [] := (hX.trans X1_0).mono (by intro k hk hlt; simp at hk ⊢ <;> first | omega | grind)
  replace hb3 := hb3.keep X1_0 (by simp)
  have zs1_0 := X1_0.size
  refine s_val rfl rfl (runs_not rfl) ?_
  refine s_nil ?_
  refine hK4 _ _ ?_
  refine c_false rfl ?_
  refine c_skip ?_
  refine hK3 _ _ ?_
  refine c_seq (fun K6 hK6 => ?_)
  refine c_seqreg (fun K7 hK7 => ?_)
  refine s_val rfl rfl (runs_move rfl) ?_
  refine s_val rfl rfl (runs_len_slice Tryd.underlying22 rfl) ?_
  refine s_val rfl rfl (runs_gt rfl rfl) ?_
  refine s_nil ?_
  refine hK7 _ _ ?_
  refine c_dec rfl (fun h30 => ?_) (fun h30 => ?_)
  · refine c_seqreg (fun K8 hK8 => ?_)
    refine s_val rfl rfl (runs_assign rfl) ?_
    refine s_nil ?_
    refine hK8 _ _ ?_
    refine c_ret ?_
    refine hret _ _ ?_
    exact ends1 (reads_tmp rfl) ⟨rfl, hX⟩
  · refine c_skip ?_
    refine hK6 _ _ ?_
    refine c_seqreg (fun K9 hK9 => ?_)
    refine s_val rfl rfl (runs_move rfl) ?_
    refine s_callf (xs := [.tmp 14]) rfl rfl Tryd.func10 rfl (by kernel_rfl) rfl (list_calls B ls _ _ _ _ hG (by omega) (hR.grow hX) (by omega)) ?_
    rintro _ w5 ⟨bx, v1, v2, rfl, hL, X5_1, hG5⟩
    replace hG := hG.keep X5_1 (by simp)
    replace hX : Chg w _ [] := (hX.trans X5_1).mono (by intro k hk hlt; simp at hk ⊢ <;> first | omega | grind)
    replace hb3 := hb3.keep X5_1 (by simp)
    have zs5_1 := X5_1.size
    have hlsl : (Sp.mkR ls).length = n := by rw [mkR_len, hlen]
    obtain ⟨rs, hrs⟩ : ∃ rs, rs = Sp.mkR ls := ⟨_, rfl⟩
    rw [← hrs] at hL hlsl
    obtain ⟨hxh, hhx⟩ : ∃ k, k = w5.heap.size := ⟨_, rfl⟩
    rw [← hhx] at hL
    have hro := root_ok _ _ (Nat.le_refl _) (leavesR_ok rs)
    refine s_val rfl rfl (runs_assign rfl) ?_
    refine s_nil ?_
    refine hK9 _ _ ?_
    refine c_seqreg (fun K11 hK11 => ?_)
    refine s_val rfl rfl (runs_move rfl) ?_
    refine s_callf (xs := [.tmp 16]) rfl rfl Tryd.func16 rfl (by kernel_rfl) rfl (lsCopy_calls hL hG (by omega)) ?_
    rintro _ w6 ⟨by_, u1, u2, rfl, hM, X6_1, hG6⟩
    replace hG := hG.keep X6_1 (by simp)
    replace hX : Chg w _ [] := (hX.trans X6_1).mono (by intro k hk hlt; simp at hk ⊢ <;> first | omega | grind)
    replace hb3 := hb3.keep X6_1 (by simp)
    replace hL := hL.keep X6_1 (by simp)
    have zs6_1 := X6_1.size
    have hrgM := hM.rng
    obtain ⟨hyh, hhy⟩ : ∃ k, k = w6.heap.size := ⟨_, rfl⟩
    rw [← hhy] at hM hrgM
    refine s_val rfl rfl (runs_assign rfl) ?_
    refine s_nil ?_
    refine hK11 _ _ ?_
    refine c_seqreg (fun K13 hK13 => ?_)
    refine s_val rfl rfl (runs_move rfl) ?_
    refine s_callf (xs := [.tmp 18, .const (.pointer none)]) rfl rfl Tryd.func17 rfl (by kernel_rfl) rfl (lsRoot0 hL hG (by omega) (by omega)) ?_
    rintro _ w71 ⟨rfl, X7_1⟩
    replace hG := hG.keep X7_1 (by simp)
    replace hX : Chg w _ [] := (hX.trans X7_1).mono (by intro k hk hlt; simp at hk ⊢ <;> first | omega | grind)
    replace hb3 := hb3.keep X7_1 (by simp)
    replace hL := hL.keep X7_1 (by simp)
    replace hM := hM.keep X7_1 (by simp)
    have zs7_1 := X7_1.size
    refine s_alloc ty43 rfl rfl ?_
    intro b7 w72a e7_2 z7_2 hb7 X7_2
    have s7_2_hX := hX.size
    have s7_2_hb3 := hb3.lt
    replace hG := hG.keep X7_2 (by simp)
    replace hX : Chg w _ [] := (hX.trans X7_2).mono (by intro k hk hlt; simp at hk ⊢ <;> first | omega | grind)
    replace hb3 := hb3.keep X7_2 (by simp)
    replace hL := hL.keep X7_2 (by simp)
    replace hM := hM.keep X7_2 (by simp)
    refine s_storeAll ty43 rfl rfl rfl hb7 (by rw [natsC_length, hro.1]) rfl (natsC_one _ _) ?_
    intro w72s z7_3 h7_3 X7_3
    replace hG := hG.keep X7_3 (by simp; omega)
    replace hX : Chg w _ [] := (hX.trans X7_3).mono (by intro k hk hlt; simp at hk ⊢ <;> first | omega | grind)
    replace hb3 := hb3.keep X7_3 (by simp; omega)
    replace hL := hL.keep X7_3 (by simp; omega)
    replace hM := hM.keep X7_3 (by simp; omega)
    replace hb7 := h7_3
    refine s_nil ?_
    have hl7 := hb7.lt
    refine hK13 _ _ ?_
    refine c_seqreg (fun K17 hK17 => ?_)
    refine s_val rfl rfl (runs_fieldAddr Tryd.underlying34 rfl ty3 (by decide) rfl) ?_
    refine s_val rfl rfl (runs_load1 ty3 rfl (hb3.cell (o := 3) rfl)) ?_
    refine s_val rfl rfl (runs_and64 255 rfl (by decide)) ?_
    refine s_val rfl rfl (runs_fieldAddr Tryd.underlying34 rfl ty3 (by decide) rfl) ?_
    refine s_store1 ty3 rfl rfl rfl hb3 (by rfl) (by simp [Rw.C]) ?_
    intro w84 z8_4 h8_4 X8_4
    replace hG := hG.keep X8_4 (by simp; omega)
    replace hX : Chg w _ [] := (hX.trans X8_4).mono (by intro k hk hlt; simp at hk ⊢ <;> first | omega | grind)
    replace hL := hL.keep X8_4 (by simp; omega)
    replace hM := hM.keep X8_4 (by simp; omega)
    replace hb7 := hb7.keep X8_4 (by simp; omega)
    replace hb3 := h8_4
    refine s_val rfl rfl (runs_fieldAddr Tryd.underlying34 rfl ty3 (by decide) rfl) ?_
    refine s_store1 ty3 rfl rfl rfl hb3 (by rfl) (by simp [Rw.C]) ?_
    intro w86 z8_6 h8_6 X8_6
    replace hG := hG.keep X8_6 (by simp; omega)
    replace hX : Chg w _ [] := (hX.trans X8_6).mono (by intro k hk hlt; simp at hk ⊢ <;> first | omega | grind)
    replace hL := hL.keep X8_6 (by simp; omega)
    replace hM := hM.keep X8_6 (by simp; omega)
    replace hb7 := hb7.keep X8_6 (by simp; omega)
    replace hb3 := h8_6
    refine s_nil ?_
    replace hb3 : Blk w86 b3 z.C 34 := by subst hz; exact hb3
    refine hK17 _ _ ?_
    refine c_seqreg (fun K20 hK20 => ?_)
    refine s_val rfl rfl (runs_move rfl) ?_
    refine s_val rfl rfl (runs_loadAgg ty34 rfl hb3.at (Rw.len _)) ?_
    refine s_callf (xs := [.tmp 25, .tmp 26]) rfl rfl Tryd.func18 rfl (by kernel_rfl) rfl (add_calls B _ _ _ _ _ _ z _ hM hG (by omega) okz (by omega)) ?_
    rintro vz w9 ⟨y1, y2, hM', X9_2, hG'⟩
    replace hX : Chg w _ [] := (hX.trans X9_2).mono (by intro k hk hlt; have := hrgM k (by simpa using hk); omega)
    replace hb3 := hb3.keep X9_2 (fun hm => by have := hrgM _ hm; omega)
    replace hL := hL.keep X9_2 (fun k hk => .inr (by have := hrgM k hk; omega))
    replace hb7 := hb7.keep X9_2 (fun hm => by have := hrgM _ hm; omega)
    have zs9_2 := X9_2.size
    have hM := hM'
    have hG := hG'
    refine s_nil ?_
    refine hK20 _ _ ?_
    refine c_seq (fun K22 hK22 => ?_)
    refine c_seqdraw [] ([]) (by kernel_rfl) ?_
    intro K23 hK23 wd10 Xd10 hS10
    replace hX : Chg w _ [] := (hX.trans Xd10).mono (by intro k hk hlt; simp at hk ⊢ <;> first | omega | grind)
    replace hb3 := hb3.keep Xd10 (by simp)
    replace hL := hL.keep Xd10 (by simp)
    replace hb7 := hb7.keep Xd10 (by simp)
    replace hM := hM.keep Xd10 (by simp)
    replace hG := hG.keep Xd10 (by simp)
    have zd10 := Xd10.size
    refine d_take 0 28 rfl (by kernel_rfl) rfl hS10 (fun wS hS => runs_move rfl) ?_
    refine d_take 2 30 rfl (by kernel_rfl) rfl hS10 (fun wS hS => runs_move rfl) ?_
    refine d_take 3 31 rfl (by kernel_rfl) rfl hS10 (fun wS hS => runs_len_slice Tryd.underlying22 rfl) ?_
    refine d_only 1 rfl (by kernel_rfl) ?_
    refine s_callf (xs := [.tmp 28]) rfl rfl Tryd.func12 rfl (by kernel_rfl) rfl (lsLen_calls (hL.keep hS10 (by simp))) ?_
    rintro _ w101 ⟨rfl, X10_1⟩
    have zs10_1 := X10_1.size
    rw [hlsl]
    replace hS10 : Chg wd10 _ [] := hS10.trans X10_1
    refine s_nil ⟨.inr hS10, ?_⟩
    refine d_take 4 32 rfl (by kernel_rfl) rfl hS10 (fun wS hS => runs_df (runs_ned rfl rfl) (fun h => h rfl)) ?_
    refine d_take 5 33 rfl (by kernel_rfl) rfl hS10 (fun wS hS => runs_move rfl) ?_
    refine d_take 6 34 rfl (by kernel_rfl) rfl hS10 (fun wS hS => runs_move rfl) ?_
    refine d_take 8 36 rfl (by kernel_rfl) rfl hS10 (fun wS hS => runs_move rfl) ?_
    refine d_take 9 37 rfl (by kernel_rfl) rfl hS10 (fun wS hS => runs_len_slice Tryd.underlying22 rfl) ?_
    refine d_take 10 38 rfl (by kernel_rfl) rfl hS10 (fun wS hS => runs_add64 rfl rfl (by omega)) ?_
    refine d_only 7 rfl (by kernel_rfl) ?_
    refine s_callf (xs := [.tmp 34]) rfl rfl Tryd.func12 rfl (by kernel_rfl) rfl (lsLen_calls (hM.keep hS10 (by simp))) ?_
    rintro _ w107 ⟨rfl, X10_7⟩
    have zs10_7 := X10_7.size
    rw [show (rs ++ [z]).length = n + 1 by simp [hlsl]]
    replace hS10 : Chg wd10 _ [] := hS10.trans X10_7
    refine s_nil ⟨.inr hS10, ?_⟩
    refine d_take 11 39 rfl (by kernel_rfl) rfl hS10 (fun wS hS => runs_df (runs_ned rfl rfl) (fun h => h (by omega))) ?_
    refine d_take 12 40 rfl (by kernel_rfl) rfl hS10 (fun wS hS => runs_pickf rfl rfl) ?_
    refine d_take 13 41 rfl (by kernel_rfl) rfl hS10 (fun wS hS => runs_move rfl) ?_
    refine d_take 14 42 rfl (by kernel_rfl) rfl hS10 (fun wS hS => runs_move rfl) ?_
    refine d_take 16 44 rfl (by kernel_rfl) rfl hS10 (fun wS hS => runs_loadAgg ty43 rfl ((hb7.keep hS (by simp)).at) (by rw [natsC_length, hro.1])) ?_
    refine d_only 15 rfl (by kernel_rfl) ?_
    refine s_callf (xs := [.tmp 42, .const (.pointer none)]) rfl rfl Tryd.func17 rfl (by kernel_rfl) rfl (lsRoot0 (hL.keep hS10 (by simp)) (hG.keep hS10 (by simp)) (by have := hS10.size; omega) (by omega)) ?_
    rintro _ w1015 ⟨rfl, X10_15⟩
    have zs10_15 := X10_15.size
    replace hS10 : Chg wd10 _ [] := hS10.trans X10_15
    refine s_nil ⟨.inr hS10, ?_⟩
    refine d_take 17 45 rfl (by kernel_rfl) rfl hS10 (fun wS hS => runs_df (runs_hv_ne rfl rfl hro hro) (fun h => h rfl)) ?_
    refine d_take 18 46 rfl (by kernel_rfl) rfl hS10 (fun wS hS => runs_pickf rfl rfl) ?_
    refine d_take 19 47 rfl (by kernel_rfl) rfl hS10 (fun wS hS => runs_move rfl) ?_
    refine d_take 20 48 rfl (by kernel_rfl) rfl hS10 (fun wS hS => runs_move rfl) ?_
    refine d_take 21 49 rfl (by kernel_rfl) rfl hS10 (fun wS hS => runs_move rfl) ?_
    refine d_take 22 50 rfl (by kernel_rfl) rfl hS10 (fun wS hS => runs_len_slice Tryd.underlying22 rfl) ?_
    refine d_take 24 52 rfl (by kernel_rfl) rfl hS10 (fun wS hS => runs_loadAgg ty34 rfl ((hb3.keep hS (by simp)).at) (Rw.len _)) ?_
    refine d_only 23 rfl (by kernel_rfl) ?_
    refine s_callf (xs := [.tmp 48, .tmp 50]) rfl rfl Tryd.func13 rfl (by kernel_rfl) rfl (lsAt_calls (hM.keep hS10 (by simp)) n z (by rw [List.getElem?_append_right (by omega), hlsl]; simp)) ?_
    rintro _ w1023 ⟨rfl, X10_23⟩
    have zs10_23 := X10_23.size
    replace hS10 : Chg wd10 _ [] := hS10.trans X10_23
    refine s_nil ⟨.inr hS10, ?_⟩
    refine d_take 25 53 rfl (by kernel_rfl) rfl hS10 (fun wS hS => runs_df (runs_row_ne rfl rfl) (fun h => h rfl)) ?_
    refine d_take 26 54 rfl (by kernel_rfl) rfl hS10 (fun wS hS => runs_pickf rfl rfl) ?_
    refine d_done (by kernel_rfl) ?_
    replace hX : Chg w _ [] := (hX.trans hS10).mono (by intro k hk hlt; simp at hk ⊢ <;> first | omega | grind)
    replace hb3 := hb3.keep hS10 (by simp)
    replace hL := hL.keep hS10 (by simp)
    replace hb7 := hb7.keep hS10 (by simp)
    replace hM := hM.keep hS10 (by simp)
    replace hG := hG.keep hS10 (by simp)
    refine hK23 _ _ ?_
    refine c_false rfl ?_
    refine c_skip ?_
    refine hK22 _ _ ?_
    refine c_seq (fun K28 hK28 => ?_)
    refine c_seqreg (fun K29 hK29 => ?_)
    refine s_val rfl rfl (runs_move rfl) ?_
    refine s_callf (xs := [.tmp 55]) rfl rfl Tryd.func12 rfl (by kernel_rfl) rfl (lsLen_calls hL) ?_
    rintro _ w12 ⟨rfl, X12_1⟩
    replace hX : Chg w _ [] := (hX.trans X12_1).mono (by intro k hk hlt; simp at hk ⊢ <;> first | omega | grind)
    replace hb3 := hb3.keep X12_1 (by simp)
    replace hL := hL.keep X12_1 (by simp)
    replace hb7 := hb7.keep X12_1 (by simp)
    replace hM := hM.keep X12_1 (by simp)
    replace hG := hG.keep X12_1 (by simp)
    have zs12_1 := X12_1.size
    rw [hlsl]
    refine s_val rfl rfl (runs_move rfl) ?_
    refine s_nil ?_
    have hzX12 := hX.size
    obtain ⟨hzh, hhz⟩ : ∃ k, k = w9.heap.size := ⟨_, rfl⟩
    rw [← hhz] at hM
    refine hK29 _ _ ?_
    refine c_block ?_
    refine c_loop (σ := Nat) (fun j => [(57, .int .i64 (j : Int)), (56, .int .i64 (n : Int)), (5, .pointer (some ⟨bx, 0, none⟩)), (6, .pointer (some ⟨by_, 0, none⟩))]) (fun j w' => j ≤ n ∧ LsV w' w1.heap.size hxh bx v1 v2 rs ∧ LsV w' w5.heap.size hzh by_ y1 y2 (rs ++ [z]) ∧ Chg w w' []) (fun j => n - j) 0 ⟨rfl, rfl, rfl, rfl, trivial⟩ ⟨Nat.zero_le _, hL, hM, hX⟩ ?_
    rintro j wj ⟨hj, hL, hM, hX⟩
    have hzX := hX.size
    refine c_seqreg (fun K31 hK31 => ?_)
    refine s_val rfl rfl (runs_lt rfl rfl) ?_
    refine s_nil ?_
    refine hK31 _ _ ?_
    refine c_seq (fun K32 hK32 => ?_)
    refine c_dec rfl (fun hjn => ?_) (fun hjn => ?_)
    · obtain ⟨r, hr⟩ : ∃ r, rs[j]? = some r := ⟨_, List.getElem?_eq_getElem (by omega)⟩
      refine c_skip ?_
      refine hK32 _ _ ?_
      refine c_seq (fun K33 hK33 => ?_)
      refine c_block ?_
      refine c_seqreg (fun K34 hK34 => ?_)
      refine s_val rfl rfl (runs_move rfl) ?_
      refine s_val rfl rfl (runs_assign rfl) ?_
      refine s_nil ?_
      refine hK34 _ _ ?_
      refine c_seqreg (fun K35 hK35 => ?_)
      refine s_val rfl rfl (runs_move rfl) ?_
      refine s_val rfl rfl (runs_move rfl) ?_
      refine s_callf (xs := [.tmp 60, .tmp 61]) rfl rfl Tryd.func13 rfl (by kernel_rfl) rfl (lsAt_calls hL j r hr) ?_
      rintro _ w152 ⟨rfl, X15_2⟩
      replace hX : Chg w _ [] := (hX.trans X15_2).mono (by intro k hk hlt; simp at hk ⊢ <;> first | omega | grind)
      replace hL := hL.keep X15_2 (by simp)
      replace hM := hM.keep X15_2 (by simp)
      have zs15_2 := X15_2.size
      refine s_val rfl rfl (runs_move rfl) ?_
      refine s_val rfl rfl (runs_move rfl) ?_
      refine s_callf (xs := [.tmp 63, .tmp 64]) rfl rfl Tryd.func13 rfl (by kernel_rfl) rfl (lsAt_calls hM j r (by rw [List.getElem?_append_left (by omega), hr])) ?_
      rintro _ w155 ⟨rfl, X15_5⟩
      replace hX : Chg w _ [] := (hX.trans X15_5).mono (by intro k hk hlt; simp at hk ⊢ <;> first | omega | grind)
      replace hL := hL.keep X15_5 (by simp)
      replace hM := hM.keep X15_5 (by simp)
      have zs15_5 := X15_5.size
      refine s_val rfl rfl (runs_df (runs_row_ne rfl rfl) (fun h => h rfl)) ?_
      refine s_nil ?_
      refine hK35 _ _ ?_
      refine c_false rfl ?_
      refine c_skip ?_
      refine hK33 _ _ ?_
      refine c_reg ?_
      refine s_val rfl rfl (runs_add64 rfl rfl (by omega)) ?_
      refine s_val rfl rfl (runs_move rfl) ?_
      refine s_nil ?_
      dsimp only [Post.setN]
      exact ⟨j + 1, ⟨rfl, rfl, rfl, rfl, trivial⟩, ⟨by omega, hL, hM, hX⟩, by omega⟩
    · refine c_exit ?_
      refine hK28 _ _ ?_
      refine c_seqreg (fun K38 hK38 => ?_)
      refine s_val rfl rfl (runs_assign rfl) ?_
      refine s_nil ?_
      refine hK38 _ _ ?_
      refine c_ret ?_
      refine hret _ _ ?_
      exact ends1 (reads_tmp rfl) ⟨rfl, hX⟩
end Go.Proofs.YtlkeofjgmegcfaaDoor
