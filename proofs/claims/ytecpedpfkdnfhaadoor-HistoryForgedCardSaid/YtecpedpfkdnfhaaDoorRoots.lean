/- The law HistoryRoots returns true, whatever it is given, once the listed variables are laid. Conditions: none beyond those in the theorems. By an AI agent. -/
import Derived.Test.YtecpedpfkdnfhaaDoorClimb
import Derived.Test.YtecpedpfkdnfhaaDoorLroot
namespace Go.Proofs.YtecpedpfkdnfhaaDoor
open Go Go.RowKit

theorem climb0 {B : Nat} {w : World} {leaf : List Nat} {i n np cp : Nat} {a : Option Addr} {path : List (List Nat)} (g : GH B w) (b : B ≤ w.heap.size) (hlf : HOk leaf) (hH : HsR w a np cp path) (hn : n ≤ 1048576) (hnp : np ≤ 1048576) (hi : i < n) :
    CallsR Tryd.prog 23 #[.pointer none, hv leaf, .int .i64 (i : Int), .int .i64 (n : Int), .slice a np cp] w fun v w' => v = .tuple #[hv (Sp.climb leaf i n path).1, .bool (Sp.climb leaf i n path).2] ∧ Chg w w' [] :=
  (climb_calls _ path (Nat.le_refl _) B _ _ none leaf i n a np cp w (pre0 g b) hlf hH (fun _ _ => by simp [foot]) (fun p hp h0 => hH.lt h0 p hp) hn hnp hi (by simp [TS.len]; omega)).mono fun _ _ ⟨e, _, p⟩ => ⟨e, p.chg⟩

set_option maxHeartbeats 2000000 in
theorem roots_calls (B : Nat) (bss : List (List Nat)) (a : Option Addr) (n c : Nat) (k : Int) (w : World) (hG0 : GH B w) (hBw : B ≤ w.heap.size) (hP : Parts w a n c bss) :
    CallsR Tryd.prog 5 #[.slice a n c, .int .i64 k] w fun v w' => v = .bool true ∧ Chg w w' [] := by
  have hlen := hP.length
  have hX : Chg w w [] := Chg.refl _ _
  have hG := hG0
  refine f_enter (l := [.slice a n c, .int .i64 k]) Tryd.func5 rfl rfl rfl rfl ?_
  cases hL : Sp.light bss with
  | false =>
    intro Qf hnrm hret
    refine c_seqreg (fun K1 hK1 => ?_)
    refine s_val rfl rfl (runs_assign rfl) ?_
    refine s_nil ?_
    refine hK1 _ _ ?_
    refine c_seq (fun K2 hK2 => ?_)
    refine c_seqreg (fun K3 hK3 => ?_)
    refine s_callf (xs := []) rfl rfl Tryd.func12 rfl (by kernel_rfl) rfl (fit_calls B _ hG (by omega)) ?_
    rintro _ w1 ⟨rfl, X1_0⟩
    replace hG := hG.keep X1_0 (by simp)
    replace hX : Chg w _ [] := (hX.trans X1_0).mono (by intro k hk hlt; simp at hk ⊢ <;> first | omega | grind)
    have zs1_0 := X1_0.size
    have hz1 := X1_0.size
    refine s_val rfl rfl (runs_not rfl) ?_
    refine s_nil ?_
    refine hK3 _ _ ?_
    refine c_false rfl ?_
    refine c_skip ?_
    refine hK2 _ _ ?_
    refine c_seq (fun K5 hK5 => ?_)
    refine c_seqreg (fun K6 hK6 => ?_)
    refine s_val rfl rfl (runs_move rfl) ?_
    refine s_callf (xs := [.tmp 18]) rfl rfl Tryd.func13 rfl (by kernel_rfl) rfl (light_calls bss _ _ _ _ (hP.grow hX)) ?_
    rintro _ w3 ⟨rfl, X3_1⟩
    replace hG := hG.keep X3_1 (by simp)
    replace hX : Chg w _ [] := (hX.trans X3_1).mono (by intro k hk hlt; simp at hk ⊢ <;> first | omega | grind)
    have zs3_1 := X3_1.size
    have hz3 := X3_1.size
    rw [hL]
    refine s_val rfl rfl (runs_not rfl) ?_
    refine s_nil ?_
    refine hK6 _ _ ?_
    refine c_true rfl ?_
    refine c_seqreg (fun K8 hK8 => ?_)
    refine s_val rfl rfl (runs_assign rfl) ?_
    refine s_nil ?_
    refine hK8 _ _ ?_
    refine c_ret ?_
    refine hret _ _ ?_
    exact ends1 (reads_tmp rfl) ⟨rfl, hX⟩
  | true =>
    have hl1 := Sp.light_len hL
    intro Qf hnrm hret
    refine c_seqreg (fun K1 hK1 => ?_)
    refine s_val rfl rfl (runs_assign rfl) ?_
    refine s_nil ?_
    refine hK1 _ _ ?_
    refine c_seq (fun K2 hK2 => ?_)
    refine c_seqreg (fun K3 hK3 => ?_)
    refine s_callf (xs := []) rfl rfl Tryd.func12 rfl (by kernel_rfl) rfl (fit_calls B _ hG (by omega)) ?_
    rintro _ w1 ⟨rfl, X1_0⟩
    replace hG := hG.keep X1_0 (by simp)
    replace hX : Chg w _ [] := (hX.trans X1_0).mono (by intro k hk hlt; simp at hk ⊢ <;> first | omega | grind)
    have zs1_0 := X1_0.size
    have hz1 := X1_0.size
    refine s_val rfl rfl (runs_not rfl) ?_
    refine s_nil ?_
    refine hK3 _ _ ?_
    refine c_false rfl ?_
    refine c_skip ?_
    refine hK2 _ _ ?_
    refine c_seq (fun K5 hK5 => ?_)
    refine c_seqreg (fun K6 hK6 => ?_)
    refine s_val rfl rfl (runs_move rfl) ?_
    refine s_callf (xs := [.tmp 18]) rfl rfl Tryd.func13 rfl (by kernel_rfl) rfl (light_calls bss _ _ _ _ (hP.grow hX)) ?_
    rintro _ w3 ⟨rfl, X3_1⟩
    replace hG := hG.keep X3_1 (by simp)
    replace hX : Chg w _ [] := (hX.trans X3_1).mono (by intro k hk hlt; simp at hk ⊢ <;> first | omega | grind)
    have zs3_1 := X3_1.size
    have hz3 := X3_1.size
    rw [hL]
    refine s_val rfl rfl (runs_not rfl) ?_
    refine s_nil ?_
    refine hK6 _ _ ?_
    refine c_false rfl ?_
    refine c_skip ?_
    refine hK5 _ _ ?_
    refine c_seqreg (fun K8 hK8 => ?_)
    refine s_val rfl rfl (runs_move rfl) ?_
    refine s_callf (xs := [.tmp 21]) rfl rfl Tryd.func14 rfl (by kernel_rfl) rfl (leaves_calls B bss _ _ _ _ hG (by omega) (hP.grow hX) hL) ?_
    rintro vh w5 ⟨hown, X5_1⟩
    replace hG := hG.keep X5_1 (by simp)
    replace hX : Chg w _ [] := (hX.trans X5_1).mono (by intro k hk hlt; simp at hk ⊢ <;> first | omega | grind)
    have zs5_1 := X5_1.size
    have hz5 := X5_1.size
    obtain ⟨hs, hhs⟩ : ∃ hs, hs = bss.map Sp.leaf := ⟨_, rfl⟩
    rw [← hhs] at hown
    obtain ⟨ah, ch, rfl, hH, hob⟩ := own_hs hown (by rw [hhs]; simpa using fun x _ => leaf_ok x) (by rw [hhs, List.length_map, hlen])
    have hlt5 : ∀ p, ah = some p → p.block < w5.heap.size := fun p hp => (hown.lt p.block (by rw [hob, hp]; rfl)).2
    have hsl : hs.length = n := hH.len
    have hro : HOk (Sp.root hs) := root_ok _ _ (Nat.le_refl _) hH.ok
    refine s_val rfl rfl (runs_assign rfl) ?_
    refine s_nil ?_
    refine hK8 _ _ ?_
    refine c_seqreg (fun K10 hK10 => ?_)
    refine s_val rfl rfl (runs_move rfl) ?_
    refine s_callf (xs := [.const (.pointer none), .tmp 23]) rfl rfl Tryd.func15 rfl (by kernel_rfl) rfl (root0 hG (by omega) hH (by omega)) ?_
    rintro _ w6 ⟨rfl, X6_1⟩
    replace hG := hG.keep X6_1 (by simp)
    replace hX : Chg w _ [] := (hX.trans X6_1).mono (by intro k hk hlt; simp at hk ⊢ <;> first | omega | grind)
    replace hH := hH.keep0 X6_1
    have zs6_1 := X6_1.size
    have hz6 := X6_1.size
    refine s_alloc ty28 rfl rfl ?_
    intro b6 w62 e6_2 z6_2 hb6 X6_2
    have s6_2_hX := hX.size
    replace hG := hG.keep X6_2 (by simp)
    replace hX : Chg w _ [] := (hX.trans X6_2).mono (by intro k hk hlt; simp at hk ⊢ <;> first | omega | grind)
    replace hH := hH.keep0 X6_2
    refine s_storeAll ty28 rfl rfl rfl hb6 (by rw [natsC_length, hro.1]) rfl (natsC_one _ _) ?_
    intro w63 z6_3 h6_3 X6_3
    replace hG := hG.keep X6_3 (by simp; omega)
    replace hX : Chg w _ [] := (hX.trans X6_3).mono (by intro k hk hlt; simp at hk ⊢ <;> first | omega | grind)
    replace hH := hH.keep X6_3 (fun p hp => by have := hlt5 p hp; simp; omega)
    replace hb6 := h6_3
    refine s_nil ?_
    refine hK10 _ _ ?_
    refine c_seq (fun K14 hK14 => ?_)
    refine c_seqdraw [] ([]) (by kernel_rfl) ?_
    intro K15 hK15 wd7 Xd7 hS7
    replace hG := hG.keep Xd7 (by simp)
    replace hX : Chg w _ [] := (hX.trans Xd7).mono (by intro k hk hlt; simp at hk ⊢ <;> first | omega | grind)
    replace hH := hH.keep0 Xd7
    replace hb6 := hb6.keep Xd7 (by simp)
    have zd7 := Xd7.size
    have hzd7 := Xd7.size
    refine d_take 0 25 rfl (by kernel_rfl) rfl hS7 (fun wS hS => runs_loadAgg ty28 rfl ((hb6.keep hS (by simp)).at) (by rw [natsC_length, hro.1])) ?_
    refine d_take 1 26 rfl (by kernel_rfl) rfl hS7 (fun wS hS => runs_move rfl) ?_
    refine d_only 2 rfl (by kernel_rfl) ?_
    refine s_callf (xs := [.tmp 26]) rfl rfl Tryd.func21 rfl (by kernel_rfl) rfl (lroot_calls _ hs (Nat.le_refl _) B _ _ _ _ hG (by omega) hH (by omega)) ?_
    rintro _ w72 ⟨rfl, X7_2⟩
    have zs7_2 := X7_2.size
    replace hS7 : Chg wd7 _ [] := hS7.trans X7_2
    refine s_nil ⟨.inr hS7, ?_⟩
    refine d_take 3 28 rfl (by kernel_rfl) rfl hS7 (fun wS hS => runs_df (runs_hv_ne rfl rfl hro hro) (by simp)) ?_
    refine d_done (by kernel_rfl) ?_
    replace hG := hG.keep hS7 (by simp)
    replace hX : Chg w _ [] := (hX.trans hS7).mono (by intro k hk hlt; simp at hk ⊢ <;> first | omega | grind)
    replace hH := hH.keep0 hS7
    replace hb6 := hb6.keep hS7 (by simp)
    have hzX7 := hX.size
    refine hK15 _ _ ?_
    refine c_false rfl ?_
    refine c_skip ?_
    refine hK14 _ _ ?_
    refine c_seq (fun K17 hK17 => ?_)
    refine c_seqreg (fun K18 hK18 => ?_)
    refine s_val rfl rfl (runs_move rfl) ?_
    refine s_val rfl rfl (runs_len_slice Tryd.underlying25 rfl) ?_
    refine s_val rfl rfl (runs_move rfl) ?_
    refine s_nil ?_
    refine hK18 _ _ ?_
    refine c_block ?_
    refine c_loop (σ := Nat) (fun i => [(31, .int .i64 (i : Int)), (30, .int .i64 (n : Int)), (5, .slice ah n ch), (6, .pointer (some ⟨b6, 0, none⟩))]) (fun i w' => i ≤ n ∧ GH B w' ∧ HsR w' ah n ch hs ∧ Blk w' b6 (natsC .u8 (Sp.root hs)) 28 ∧ Chg w w' []) (fun i => n - i) 0 ⟨rfl, rfl, rfl, rfl, trivial⟩ ⟨Nat.zero_le _, hG, hH, hb6, hX⟩ ?_
    rintro i wi ⟨hi, hG, hH, hb6, hX⟩
    have hzX := hX.size
    refine c_seqreg (fun K19 hK19 => ?_)
    refine s_val rfl rfl (runs_lt rfl rfl) ?_
    refine s_nil ?_
    refine hK19 _ _ ?_
    refine c_seq (fun K20 hK20 => ?_)
    refine c_dec rfl (fun hin => ?_) (fun hin => ?_)
    · obtain ⟨bh, oh, rfl⟩ := hH.rd.some_ (by omega)
      have hbh := hH.lt (by omega) _ rfl
      simp only at hbh
      obtain ⟨x, hx⟩ : ∃ x, hs[i]? = some x := ⟨_, List.getElem?_eq_getElem (by omega)⟩
      have hxo := hH.ok x (List.mem_of_getElem? hx)
      have hcp := Sp.climb_path _ hs i x (Nat.le_refl _) hx
      rw [hsl] at hcp
      have hpl := Sp.path_len hs i
      refine c_skip ?_
      refine hK20 _ _ ?_
      refine c_seq (fun K21 hK21 => ?_)
      refine c_block ?_
      refine c_seqreg (fun K22 hK22 => ?_)
      refine s_val rfl rfl (runs_move rfl) ?_
      refine s_val rfl rfl (runs_assign rfl) ?_
      refine s_nil ?_
      refine hK22 _ _ ?_
      refine c_seqreg (fun K23 hK23 => ?_)
      refine s_val rfl rfl (runs_move rfl) ?_
      refine s_val rfl rfl (runs_move rfl) ?_
      refine s_callf (xs := [.const (.pointer none), .tmp 35, .tmp 36]) rfl rfl Tryd.func22 rfl (by kernel_rfl) rfl (path_calls _ hs (Nat.le_refl _) B i _ _ _ _ hG (by omega) hH (by omega) (by omega)) ?_
      rintro _ w12 ⟨vp, rfl, hown, X12_2⟩
      replace hG := hG.keep X12_2 (by simp)
      replace hH := hH.keep0 X12_2
      replace hb6 := hb6.keep X12_2 (by simp)
      replace hX : Chg w _ [] := (hX.trans X12_2).mono (by intro k hk hlt; simp at hk ⊢ <;> first | omega | grind)
      have zs12_2 := X12_2.size
      have hz12 := X12_2.size
      obtain ⟨ap, cp, rfl, hHp, _⟩ := own_hs hown (path_ok _ hs i (Nat.le_refl _) hH.ok) rfl
      refine s_val rfl rfl (runs_move rfl) ?_
      refine s_val rfl rfl (runs_extract rfl rfl) ?_
      refine s_val rfl rfl (runs_extract rfl rfl) ?_
      refine s_val rfl rfl (runs_assign rfl) ?_
      refine s_val rfl rfl (runs_assign rfl) ?_
      refine s_nil ?_
      refine hK23 _ _ ?_
      refine c_seqreg (fun K25 hK25 => ?_)
      refine s_val rfl rfl (runs_move rfl) ?_
      refine s_val rfl rfl (runs_move rfl) ?_
      refine s_val rfl rfl (runs_index_slice (i) Tryd.underlying25 ty28 rfl rfl (by omega) (by omega)) ?_
      refine s_val rfl rfl (runs_loadAgg ty28 rfl (hH.elem hx) (by rw [natsC_length, hxo.1])) ?_
      refine s_val rfl rfl (runs_move rfl) ?_
      refine s_val rfl rfl (runs_move rfl) ?_
      refine s_val rfl rfl (runs_len_slice Tryd.underlying25 rfl) ?_
      refine s_val rfl rfl (runs_move rfl) ?_
      refine s_callf (xs := [.const (.pointer none), .tmp 44, .tmp 45, .tmp 47, .tmp 48]) rfl rfl Tryd.func23 rfl (by kernel_rfl) rfl (climb0 hG (by omega) hxo hHp (by omega) (by omega) (by omega)) ?_
      rintro _ w13 ⟨rfl, X13_8⟩
      replace hG := hG.keep X13_8 (by simp)
      replace hH := hH.keep0 X13_8
      replace hb6 := hb6.keep X13_8 (by simp)
      replace hX : Chg w _ [] := (hX.trans X13_8).mono (by intro k hk hlt; simp at hk ⊢ <;> first | omega | grind)
      have zs13_8 := X13_8.size
      have hz13 := X13_8.size
      rw [hcp]
      refine s_val rfl rfl (runs_move rfl) ?_
      refine s_val rfl rfl (runs_extract rfl rfl) ?_
      refine s_val rfl rfl (runs_extract rfl rfl) ?_
      refine s_alloc ty28 rfl rfl ?_
      intro b10 w1312 e13_12 z13_12 hb10 X13_12
      have s13_12_hb6 := hb6.lt
      have s13_12_hX := hX.size
      replace hG := hG.keep X13_12 (by simp)
      replace hH := hH.keep0 X13_12
      replace hb6 := hb6.keep X13_12 (by simp)
      replace hX : Chg w _ [] := (hX.trans X13_12).mono (by intro k hk hlt; simp at hk ⊢ <;> first | omega | grind)
      refine s_storeAll ty28 rfl rfl rfl hb10 (by rw [natsC_length, hro.1]) rfl (natsC_one _ _) ?_
      intro w1313 z13_13 h13_13 X13_13
      replace hG := hG.keep X13_13 (by simp; omega)
      replace hH := hH.keep X13_13 (fun p hp => by cases hp; simp; omega)
      replace hb6 := hb6.keep X13_13 (by simp; omega)
      replace hX : Chg w _ [] := (hX.trans X13_13).mono (by intro k hk hlt; simp at hk ⊢ <;> first | omega | grind)
      replace hb10 := h13_13
      refine s_val rfl rfl (runs_assign rfl) ?_
      refine s_nil ?_
      refine hK25 _ _ ?_
      refine c_seqreg (fun K29 hK29 => ?_)
      refine s_val rfl rfl (runs_move rfl) ?_
      refine s_val rfl rfl (runs_not rfl) ?_
      refine s_val rfl rfl (runs_move rfl) ?_
      refine s_val rfl rfl (runs_move rfl) ?_
      refine s_val rfl rfl (runs_not rfl) ?_
      refine s_val rfl rfl (runs_pickf rfl rfl) ?_
      refine s_val rfl rfl (runs_move rfl) ?_
      refine s_val rfl rfl (runs_loadAgg ty28 rfl hb10.at (by rw [natsC_length, hro.1])) ?_
      refine s_val rfl rfl (runs_loadAgg ty28 rfl hb6.at (by rw [natsC_length, hro.1])) ?_
      refine s_val rfl rfl (runs_df (runs_hv_ne rfl rfl hro hro) (by simp)) ?_
      refine s_val rfl rfl (runs_pickf rfl rfl) ?_
      refine s_nil ?_
      refine hK29 _ _ ?_
      refine c_false rfl ?_
      refine c_skip ?_
      refine hK21 _ _ ?_
      refine c_reg ?_
      refine s_val rfl rfl (runs_add64 rfl rfl (by omega)) ?_
      refine s_val rfl rfl (runs_move rfl) ?_
      refine s_nil ?_
      dsimp only [Post.setN]
      exact ⟨i + 1, ⟨rfl, rfl, rfl, rfl, trivial⟩, ⟨by omega, hG, hH, hb6, hX⟩, by omega⟩
    · refine c_exit ?_
      refine hK17 _ _ ?_
      refine c_seqreg (fun K30 hK30 => ?_)
      refine s_val rfl rfl (runs_move rfl) ?_
      refine s_val rfl rfl (runs_len_slice Tryd.underlying25 rfl) ?_
      refine s_val rfl rfl (runs_move rfl) ?_
      refine s_callf (xs := [.const (.pointer none), .tmp 66, .tmp 67]) rfl rfl Tryd.func22 rfl (by kernel_rfl) rfl (path_bad _ _ _ _ _ (.inr (by omega))) ?_
      rintro _ w17 ⟨rfl, X17_3⟩
      replace hG := hG.keep X17_3 (by simp)
      replace hH := hH.keep0 X17_3
      replace hb6 := hb6.keep X17_3 (by simp)
      replace hX : Chg w _ [] := (hX.trans X17_3).mono (by intro k hk hlt; simp at hk ⊢ <;> first | omega | grind)
      have zs17_3 := X17_3.size
      refine s_val rfl rfl (runs_move rfl) ?_
      refine s_val rfl rfl (runs_extract rfl rfl) ?_
      refine s_val rfl rfl (runs_extract rfl rfl) ?_
      refine s_val rfl rfl (runs_assign rfl) ?_
      refine s_val rfl rfl (runs_assign rfl) ?_
      refine s_nil ?_
      refine hK30 _ _ ?_
      refine c_seqreg (fun K32 hK32 => ?_)
      refine s_val rfl rfl (runs_move rfl) ?_
      refine s_callf (xs := [.const (.pointer none), .const (.int .i64 (-1)), .tmp 72]) rfl rfl Tryd.func22 rfl (by kernel_rfl) rfl (path_bad _ _ _ _ _ (.inl (by omega))) ?_
      rintro _ w18 ⟨rfl, X18_1⟩
      replace hG := hG.keep X18_1 (by simp)
      replace hH := hH.keep0 X18_1
      replace hb6 := hb6.keep X18_1 (by simp)
      replace hX : Chg w _ [] := (hX.trans X18_1).mono (by intro k hk hlt; simp at hk ⊢ <;> first | omega | grind)
      have zs18_1 := X18_1.size
      refine s_val rfl rfl (runs_move rfl) ?_
      refine s_val rfl rfl (runs_extract rfl rfl) ?_
      refine s_val rfl rfl (runs_extract rfl rfl) ?_
      refine s_val rfl rfl (runs_assign rfl) ?_
      refine s_val rfl rfl (runs_assign rfl) ?_
      refine s_nil ?_
      refine hK32 _ _ ?_
      refine c_seqreg (fun K34 hK34 => ?_)
      refine s_val rfl rfl (runs_move rfl) ?_
      refine s_val rfl rfl (runs_not rfl) ?_
      refine s_val rfl rfl (runs_move rfl) ?_
      refine s_val rfl rfl (runs_move rfl) ?_
      refine s_val rfl rfl (runs_not rfl) ?_
      refine s_val rfl rfl (runs_pickt rfl rfl) ?_
      refine s_val rfl rfl (runs_assign rfl) ?_
      refine s_nil ?_
      refine hK34 _ _ ?_
      refine c_ret ?_
      refine hret _ _ ?_
      exact ends1 (reads_tmp rfl) ⟨rfl, hX⟩
end Go.Proofs.YtecpedpfkdnfhaaDoor
