/- fit returns true. Conditions: none beyond those in the theorems. By an AI agent. -/
import Derived.Test.YtecpedpfkdnfhaaDoorLaw0
namespace Go.Proofs.YtecpedpfkdnfhaaDoor
open Go Go.RowKit

section
variable {ρ : Env} {w : World} {x y : Operand} {ty tyy : TypeId} {xs ys : List Nat}
theorem inj_ofNat {xs ys : List Nat} : (xs.map Int.ofNat == ys.map Int.ofNat) = decide (xs = ys) := by
  rw [Bool.eq_iff_iff]
  simp only [beq_iff_eq, decide_eq_true_eq]
  refine ⟨fun h => ?_, fun h => by rw [h]⟩
  induction xs generalizing ys with
  | nil => cases ys with
    | nil => rfl
    | cons => simp at h
  | cons a xs ih => cases ys with
    | nil => simp at h
    | cons b ys =>
      simp at h
      rw [ih h.2]
      have := h.1
      rw [show a = b by omega]
theorem runs_hv_eq (hx : ev? ρ x = some (hv xs)) (hy : ev? ρ y = some (hv ys)) (h1 : HOk xs) (h2 : HOk ys) : Runs Tryd.prog ρ (.binOp .eql 28 x y tyy) ty w (.bool (decide (xs = ys))) w := by
  have := runs_arr_eq (P := Tryd.prog) (ρ := ρ) (w := w) (x := x) (y := y) (ty := ty) (tyy := tyy) Tryd.underlying28 Tryd.underlying5 ty5 (by kernel_rfl) (xs := xs.map Int.ofNat) (ys := ys.map Int.ofNat) (by simp [h1.1]) (by simp [h2.1]) (by rw [hx]; simp only [hv, natsC_ints]) (by rw [hy]; simp only [hv, natsC_ints])
  rwa [inj_ofNat] at this
theorem runs_hv_ne (hx : ev? ρ x = some (hv xs)) (hy : ev? ρ y = some (hv ys)) (h1 : HOk xs) (h2 : HOk ys) : Runs Tryd.prog ρ (.binOp .neq 28 x y tyy) ty w (.bool (decide (xs ≠ ys))) w := by
  have := runs_arr_ne (P := Tryd.prog) (ρ := ρ) (w := w) (x := x) (y := y) (ty := ty) (tyy := tyy) Tryd.underlying28 Tryd.underlying5 ty5 (by kernel_rfl) (xs := xs.map Int.ofNat) (ys := ys.map Int.ofNat) (by simp [h1.1]) (by simp [h2.1]) (by rw [hx]; simp only [hv, natsC_ints]) (by rw [hy]; simp only [hv, natsC_ints])
  rw [inj_ofNat] at this
  rwa [show decide (xs ≠ ys) = !decide (xs = ys) by simp]
end
theorem leaf_unlike : Sp.leaf [] ≠ Sp.leaf [1] := by decide +kernel
theorem path_three (a b c : List Nat) : Sp.path [a, b, c] 0 = [b, c] := by
  rw [Sp.path_lo _ _ (by simp) (by show 0 < Sp.split 3; decide)]
  show Sp.path [a, b] 0 ++ [Sp.root [c]] = _
  rw [Sp.path_lo _ _ (by simp) (by show 0 < Sp.split 2; decide)]
  show (Sp.path [a] 0 ++ [Sp.root [b]]) ++ [Sp.root [c]] = _
  rw [Sp.path_one, Sp.root_one, Sp.root_one]; rfl
theorem lit1 {w : World} {b x : Nat} {t : TypeId} (h : Blk w b (flatC [.int .u8 (x : Int)]) t) : Bytes w (some ⟨b, 0, none⟩) 1 1 [x] := lit_reads h rfl (by decide)

set_option maxHeartbeats 1000000 in
theorem fit_calls (B : Nat) (w : World) (hG : GH B w) (hBw : B ≤ w.heap.size) : CallsR Tryd.prog 12 #[] w fun v w' => v = .bool true ∧ Chg w w' [] := by
  have hX : Chg w w [] := Chg.refl _ _
  have hl0 := leaf_ok []
  have hl1 := leaf_ok [1]
  have hl2 := leaf_ok [2]
  obtain ⟨la, hla⟩ : ∃ l, l = Sp.leaf [] := ⟨_, rfl⟩
  obtain ⟨lb, hlb⟩ : ∃ l, l = Sp.leaf [1] := ⟨_, rfl⟩
  obtain ⟨lc, hlc⟩ : ∃ l, l = Sp.leaf [2] := ⟨_, rfl⟩
  have hab : la ≠ lb := by rw [hla, hlb]; exact leaf_unlike
  rw [← hla] at hl0
  rw [← hlb] at hl1
  rw [← hlc] at hl2
  have hok3 : ∀ x ∈ [la, lb, lc], HOk x := by simp [hl0, hl1, hl2]
  refine f_enter (l := []) Tryd.func12 rfl rfl rfl rfl ?_
  intro Qf hnrm hret
  refine c_seqreg (fun K1 hK1 => ?_)
  refine s_val rfl rfl (runs_assign rfl) ?_
  refine s_nil ?_
  refine hK1 _ _ ?_
  refine c_seqreg (fun K2 hK2 => ?_)
  refine s_callf (xs := [.const (.pointer none), .const (.slice none 0 0)]) rfl rfl Tryd.func18 rfl (by kernel_rfl) rfl (leaf0 (b := []) hG (by omega) (SlR.nil_ _ _) (by simp) (by omega)) ?_
  rintro _ w1 ⟨rfl, X1_0⟩
  replace hG := hG.keep X1_0 (by simp)
  replace hX : Chg w _ [] := (hX.trans X1_0).mono (by intro k hk hlt; simp at hk ⊢ <;> first | omega | grind)
  have zs1_0 := X1_0.size
  have hz1 := X1_0.size
  rw [← hla]
  refine s_lit (xs := [.const (.int .u8 1)]) Tryd.underlying32 ty5 rfl rfl rfl rfl rfl (by simp [Value.cells]) (by decide) (by decide) ?_
  intro b7 w2 e1_1 z1_1 hb7 X1_1
  have s1_1_hX := hX.size
  replace hG := hG.keep X1_1 (by simp)
  replace hX : Chg w _ [] := (hX.trans X1_1).mono (by intro k hk hlt; simp at hk ⊢ <;> first | omega | grind)
  have hz2 := X1_1.size
  refine s_callf (xs := [.const (.pointer none), .tmp 7]) rfl rfl Tryd.func18 rfl (by kernel_rfl) rfl (leaf0 hG (by omega) (lit1 hb7) (by simp) (by omega)) ?_
  rintro _ w3 ⟨rfl, X1_2⟩
  replace hG := hG.keep X1_2 (by simp)
  replace hX : Chg w _ [] := (hX.trans X1_2).mono (by intro k hk hlt; simp at hk ⊢ <;> first | omega | grind)
  have zs1_2 := X1_2.size
  have hz3 := X1_2.size
  rw [← hlb]
  refine s_lit (xs := [.const (.int .u8 2)]) Tryd.underlying32 ty5 rfl rfl rfl rfl rfl (by simp [Value.cells]) (by decide) (by decide) ?_
  intro b9 w4 e1_3 z1_3 hb9 X1_3
  have s1_3_hX := hX.size
  replace hG := hG.keep X1_3 (by simp)
  replace hX : Chg w _ [] := (hX.trans X1_3).mono (by intro k hk hlt; simp at hk ⊢ <;> first | omega | grind)
  have hz4 := X1_3.size
  refine s_callf (xs := [.const (.pointer none), .tmp 9]) rfl rfl Tryd.func18 rfl (by kernel_rfl) rfl (leaf0 hG (by omega) (lit1 hb9) (by simp) (by omega)) ?_
  rintro _ w5 ⟨rfl, X1_4⟩
  replace hG := hG.keep X1_4 (by simp)
  replace hX : Chg w _ [] := (hX.trans X1_4).mono (by intro k hk hlt; simp at hk ⊢ <;> first | omega | grind)
  have zs1_4 := X1_4.size
  have hz5 := X1_4.size
  rw [← hlc]
  refine s_alloc ty28 rfl rfl ?_
  intro b1 w6 e1_5 z1_5 hb1 X1_5
  have s1_5_hX := hX.size
  replace hG := hG.keep X1_5 (by simp)
  replace hX : Chg w _ [] := (hX.trans X1_5).mono (by intro k hk hlt; simp at hk ⊢ <;> first | omega | grind)
  refine s_alloc ty28 rfl rfl ?_
  intro b2 w7 e1_6 z1_6 hb2 X1_6
  have s1_6_hX := hX.size
  have s1_6_hb1 := hb1.lt
  replace hG := hG.keep X1_6 (by simp)
  replace hX : Chg w _ [] := (hX.trans X1_6).mono (by intro k hk hlt; simp at hk ⊢ <;> first | omega | grind)
  replace hb1 := hb1.keep X1_6 (by simp)
  refine s_alloc ty28 rfl rfl ?_
  intro b3 w8 e1_7 z1_7 hb3 X1_7
  have s1_7_hX := hX.size
  have s1_7_hb1 := hb1.lt
  have s1_7_hb2 := hb2.lt
  replace hG := hG.keep X1_7 (by simp)
  replace hX : Chg w _ [] := (hX.trans X1_7).mono (by intro k hk hlt; simp at hk ⊢ <;> first | omega | grind)
  replace hb1 := hb1.keep X1_7 (by simp)
  replace hb2 := hb2.keep X1_7 (by simp)
  refine s_storeAll ty28 rfl rfl rfl hb1 (by rw [natsC_length, hl0.1]) rfl (natsC_one _ _) ?_
  intro w9 z1_8 h1_8 X1_8
  replace hG := hG.keep X1_8 (by simp; omega)
  replace hX : Chg w _ [] := (hX.trans X1_8).mono (by intro k hk hlt; simp at hk ⊢ <;> first | omega | grind)
  replace hb2 := hb2.keep X1_8 (by simp; omega)
  replace hb3 := hb3.keep X1_8 (by simp; omega)
  replace hb1 := h1_8
  refine s_storeAll ty28 rfl rfl rfl hb2 (by rw [natsC_length, hl1.1]) rfl (natsC_one _ _) ?_
  intro w10 z1_9 h1_9 X1_9
  replace hG := hG.keep X1_9 (by simp; omega)
  replace hX : Chg w _ [] := (hX.trans X1_9).mono (by intro k hk hlt; simp at hk ⊢ <;> first | omega | grind)
  replace hb1 := hb1.keep X1_9 (by simp; omega)
  replace hb3 := hb3.keep X1_9 (by simp; omega)
  replace hb2 := h1_9
  refine s_storeAll ty28 rfl rfl rfl hb3 (by rw [natsC_length, hl2.1]) rfl (natsC_one _ _) ?_
  intro w11 z1_10 h1_10 X1_10
  replace hG := hG.keep X1_10 (by simp; omega)
  replace hX : Chg w _ [] := (hX.trans X1_10).mono (by intro k hk hlt; simp at hk ⊢ <;> first | omega | grind)
  replace hb1 := hb1.keep X1_10 (by simp; omega)
  replace hb2 := hb2.keep X1_10 (by simp; omega)
  replace hb3 := h1_10
  refine s_nil ?_
  refine hK2 _ _ ?_
  refine c_seqreg (fun K14 hK14 => ?_)
  refine s_val rfl rfl (runs_loadAgg ty28 rfl hb1.at (by rw [natsC_length, hl0.1])) ?_
  refine s_val rfl rfl (runs_loadAgg ty28 rfl hb2.at (by rw [natsC_length, hl1.1])) ?_
  refine s_val rfl rfl (runs_loadAgg ty28 rfl hb3.at (by rw [natsC_length, hl2.1])) ?_
  refine s_lit (xs := [.tmp 12, .tmp 13, .tmp 14]) Tryd.underlying25 ty28 rfl rfl rfl rfl rfl (hv_sz hok3) (by decide) (by decide) ?_
  intro b15 w12 e2_3 z2_3 hb15 X2_3
  have s2_3_hX := hX.size
  have s2_3_hb1 := hb1.lt
  have s2_3_hb2 := hb2.lt
  have s2_3_hb3 := hb3.lt
  replace hG := hG.keep X2_3 (by simp)
  replace hX : Chg w _ [] := (hX.trans X2_3).mono (by intro k hk hlt; simp at hk ⊢ <;> first | omega | grind)
  replace hb1 := hb1.keep X2_3 (by simp)
  replace hb2 := hb2.keep X2_3 (by simp)
  replace hb3 := hb3.keep X2_3 (by simp)
  have hz12 := X2_3.size
  refine s_callf (xs := [.const (.pointer none), .const (.int .i64 0), .tmp 15]) rfl rfl Tryd.func22 rfl (by kernel_rfl) rfl (path_calls 3 [la, lb, lc] (by simp) B 0 _ 3 3 _ hG (by omega) (hs_lit [la, lb, lc] hb15 hok3 rfl) (by decide) (by decide)) ?_
  rintro _ w13 ⟨vp, rfl, hown, X2_4⟩
  replace hG := hG.keep X2_4 (by simp)
  replace hX : Chg w _ [] := (hX.trans X2_4).mono (by intro k hk hlt; simp at hk ⊢ <;> first | omega | grind)
  replace hb1 := hb1.keep X2_4 (by simp)
  replace hb2 := hb2.keep X2_4 (by simp)
  replace hb3 := hb3.keep X2_4 (by simp)
  have zs2_4 := X2_4.size
  rw [path_three] at hown
  obtain ⟨ap, cp, rfl, hHp, _⟩ := own_hs (n := 2) hown (by simp [hl1, hl2]) rfl
  obtain ⟨bp, op, rfl⟩ := hHp.rd.some_ (by decide)
  refine s_val rfl rfl (runs_move rfl) ?_
  refine s_val rfl rfl (runs_extract rfl rfl) ?_
  refine s_val rfl rfl (runs_extract rfl rfl) ?_
  refine s_val rfl rfl (runs_assign rfl) ?_
  refine s_val rfl rfl (runs_assign rfl) ?_
  refine s_nil ?_
  refine hK14 _ _ ?_
  refine c_seqdraw [] ([]) (by kernel_rfl) ?_
  intro K17 hK17 wd3 Xd3 hS3
  replace hG := hG.keep Xd3 (by simp)
  replace hX : Chg w _ [] := (hX.trans Xd3).mono (by intro k hk hlt; simp at hk ⊢ <;> first | omega | grind)
  replace hb1 := hb1.keep Xd3 (by simp)
  replace hb2 := hb2.keep Xd3 (by simp)
  replace hb3 := hb3.keep Xd3 (by simp)
  replace hHp := hHp.keep0 Xd3
  have zd3 := Xd3.size
  have hzd := Xd3.size
  have hz13 := X2_4.size
  refine d_take 0 19 rfl (by kernel_rfl) rfl hS3 (fun wS hS => runs_move rfl) ?_
  refine d_take 1 20 rfl (by kernel_rfl) rfl hS3 (fun wS hS => runs_move rfl) ?_
  refine d_take 2 21 rfl (by kernel_rfl) rfl hS3 (fun wS hS => runs_move rfl) ?_
  refine d_take 3 22 rfl (by kernel_rfl) rfl hS3 (fun wS hS => runs_as (runs_len_slice Tryd.underlying25 rfl) rfl) ?_
  refine d_take 4 23 rfl (by kernel_rfl) rfl hS3 (fun wS hS => runs_dt (runs_eqd rfl rfl) (by decide)) ?_
  refine d_take 5 24 rfl (by kernel_rfl) rfl hS3 (fun wS hS => runs_pickt rfl rfl) ?_
  refine d_take 6 25 rfl (by kernel_rfl) rfl hS3 (fun wS hS => runs_move rfl) ?_
  refine d_take 7 26 rfl (by kernel_rfl) rfl hS3 (fun wS hS => runs_move rfl) ?_
  refine d_take 8 27 rfl (by kernel_rfl) rfl hS3 (fun wS hS => runs_index_slice (0) Tryd.underlying25 ty28 rfl rfl (by omega) (by omega)) ?_
  refine d_take 9 28 rfl (by kernel_rfl) rfl hS3 (fun wS hS => runs_loadAgg ty28 rfl ((hHp.keep0 hS).elem (i := 0) rfl) (by rw [natsC_length, hl1.1])) ?_
  refine d_take 10 29 rfl (by kernel_rfl) rfl hS3 (fun wS hS => runs_loadAgg ty28 rfl ((hb2.keep hS (by simp)).at) (by rw [natsC_length, hl1.1])) ?_
  refine d_take 11 30 rfl (by kernel_rfl) rfl hS3 (fun wS hS => runs_dt (runs_hv_eq rfl rfl hl1 hl1) rfl) ?_
  refine d_take 12 31 rfl (by kernel_rfl) rfl hS3 (fun wS hS => runs_pickt rfl rfl) ?_
  refine d_take 13 32 rfl (by kernel_rfl) rfl hS3 (fun wS hS => runs_move rfl) ?_
  refine d_take 14 33 rfl (by kernel_rfl) rfl hS3 (fun wS hS => runs_move rfl) ?_
  refine d_take 15 34 rfl (by kernel_rfl) rfl hS3 (fun wS hS => runs_index_slice (1) Tryd.underlying25 ty28 rfl rfl (by omega) (by omega)) ?_
  refine d_take 16 35 rfl (by kernel_rfl) rfl hS3 (fun wS hS => runs_loadAgg ty28 rfl ((hHp.keep0 hS).elem (i := 1) rfl) (by rw [natsC_length, hl2.1])) ?_
  refine d_take 17 36 rfl (by kernel_rfl) rfl hS3 (fun wS hS => runs_loadAgg ty28 rfl ((hb3.keep hS (by simp)).at) (by rw [natsC_length, hl2.1])) ?_
  refine d_take 18 37 rfl (by kernel_rfl) rfl hS3 (fun wS hS => runs_dt (runs_hv_eq rfl rfl hl2 hl2) rfl) ?_
  refine d_take 19 38 rfl (by kernel_rfl) rfl hS3 (fun wS hS => runs_pickt rfl rfl) ?_
  refine d_take 20 39 rfl (by kernel_rfl) rfl hS3 (fun wS hS => runs_move rfl) ?_
  refine d_take 21 40 rfl (by kernel_rfl) rfl hS3 (fun wS hS => runs_loadAgg ty28 rfl ((hb1.keep hS (by simp)).at) (by rw [natsC_length, hl0.1])) ?_
  refine d_take 22 41 rfl (by kernel_rfl) rfl hS3 (fun wS hS => runs_loadAgg ty28 rfl ((hb2.keep hS (by simp)).at) (by rw [natsC_length, hl1.1])) ?_
  refine d_take 23 42 rfl (by kernel_rfl) rfl hS3 (fun wS hS => runs_dt (runs_hv_ne rfl rfl hl0 hl1) hab) ?_
  refine d_take 24 43 rfl (by kernel_rfl) rfl hS3 (fun wS hS => runs_pickt rfl rfl) ?_
  refine d_take 25 44 rfl (by kernel_rfl) rfl hS3 (fun wS hS => runs_move rfl) ?_
  refine d_take 26 45 rfl (by kernel_rfl) rfl hS3 (fun wS hS => runs_loadAgg ty28 rfl ((hb1.keep hS (by simp)).at) (by rw [natsC_length, hl0.1])) ?_
  refine d_take 29 48 rfl (by kernel_rfl) rfl hS3 (fun wS hS => runs_loadAgg ty28 rfl ((hb1.keep hS (by simp)).at) (by rw [natsC_length, hl0.1])) ?_
  refine d_only 27 rfl (by kernel_rfl) ?_
  refine s_lit (xs := [.tmp 45]) Tryd.underlying25 ty28 rfl rfl rfl rfl rfl (hv_sz (l := [la]) (by simp [hl0])) (by decide) (by decide) ?_
  intro b46 w14 e3_27 z3_27 hb46 X3_27
  replace hS3 : Chg wd3 _ [] := hS3.trans X3_27
  refine s_nil ⟨.inr hS3, ?_⟩
  refine d_only 28 rfl (by kernel_rfl) ?_
  refine s_callf (xs := [.const (.pointer none), .tmp 46]) rfl rfl Tryd.func15 rfl (by kernel_rfl) rfl (root0 ((hG.keep hS3 (by simp))) (by have := hS3.size; omega) (hs_lit [la] hb46 (by simp [hl0]) rfl) (by decide)) ?_
  rintro _ w15 ⟨rfl, X3_28⟩
  have zs3_28 := X3_28.size
  rw [Sp.root_one]
  replace hS3 : Chg wd3 _ [] := hS3.trans X3_28
  refine s_nil ⟨.inr hS3, ?_⟩
  refine d_take 30 49 rfl (by kernel_rfl) rfl hS3 (fun wS hS => runs_dt (runs_hv_eq rfl rfl hl0 hl0) rfl) ?_
  refine d_take 31 50 rfl (by kernel_rfl) rfl hS3 (fun wS hS => runs_pickt rfl rfl) ?_
  refine d_take 32 51 rfl (by kernel_rfl) rfl hS3 (fun wS hS => runs_move rfl) ?_
  refine d_only 33 rfl (by kernel_rfl) ?_
  refine s_callf (xs := [.const (.pointer none), .const (.slice none 0 0)]) rfl rfl Tryd.func17 rfl (by kernel_rfl) rfl (of0 (bss := []) ((hG.keep hS3 (by simp))) (by have := hS3.size; omega) (parts_nil _) (by simp)) ?_
  rintro _ w16 ⟨rfl, X3_33⟩
  have zs3_33 := X3_33.size
  replace hS3 : Chg wd3 _ [] := hS3.trans X3_33
  refine s_nil ⟨.inr hS3, ?_⟩
  refine d_only 34 rfl (by kernel_rfl) ?_
  refine s_callf (xs := [.const (.pointer none), .const (.slice none 0 0)]) rfl rfl Tryd.func15 rfl (by kernel_rfl) rfl (root0 (hs := []) ((hG.keep hS3 (by simp))) (by have := hS3.size; omega) ⟨SlR.nil_ _ _, rfl, by simp⟩ (by decide)) ?_
  rintro _ w17 ⟨rfl, X3_34⟩
  have zs3_34 := X3_34.size
  replace hS3 : Chg wd3 _ [] := hS3.trans X3_34
  refine s_nil ⟨.inr hS3, ?_⟩
  refine d_take 35 54 rfl (by kernel_rfl) rfl hS3 (fun wS hS => runs_dt (runs_hv_eq rfl rfl (sha_ok _) (root_ok _ _ (Nat.le_refl _) (by simp))) rfl) ?_
  refine d_take 36 55 rfl (by kernel_rfl) rfl hS3 (fun wS hS => runs_pickt rfl rfl) ?_
  refine d_take 37 0 rfl (by kernel_rfl) rfl hS3 (fun wS hS => runs_assign rfl) ?_
  refine d_done (by kernel_rfl) ?_
  replace hG := hG.keep hS3 (by simp)
  replace hX : Chg w _ [] := (hX.trans hS3).mono (by intro k hk hlt; simp at hk ⊢ <;> first | omega | grind)
  replace hb1 := hb1.keep hS3 (by simp)
  replace hb2 := hb2.keep hS3 (by simp)
  replace hb3 := hb3.keep hS3 (by simp)
  replace hHp := hHp.keep0 hS3
  refine hK17 _ _ ?_
  refine c_ret ?_
  refine hret _ _ ?_
  exact ends1 (reads_tmp rfl) ⟨rfl, hX⟩
end Go.Proofs.YtecpedpfkdnfhaaDoor
