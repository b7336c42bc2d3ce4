/- The law's own root answers as the specification says. Conditions: none beyond those in the theorems. By an AI agent. -/
import Derived.Test.YtecpedpfkdnfhaaDoorFit
namespace Go.Proofs.YtecpedpfkdnfhaaDoor
open Go Go.RowKit

set_option maxHeartbeats 2000000 in
theorem lroot_calls (m : Nat) : ∀ (hs : List (List Nat)), hs.length ≤ m → ∀ (B : Nat) (a : Option Addr) (n c : Nat) (w : World), GH B w → B ≤ w.heap.size → HsR w a n c hs → n ≤ 1048576 →
    CallsR Tryd.prog 21 #[.slice a n c] w fun v w' => v = hv (Sp.root hs) ∧ Chg w w' [] := by
  induction m with
  | zero =>
    intro hs hm B a n c w hG hBw hH hn
    obtain rfl : hs = [] := List.eq_nil_of_length_eq_zero (by omega)
    obtain rfl : n = 0 := hH.len.symm
    have hX : Chg w w [] := Chg.refl _ _
    refine f_enter (l := [.slice a 0 c]) Tryd.func21 rfl rfl rfl rfl ?_
    intro Qf hnrm hret
    refine c_seqreg (fun K1 hK1 => ?_)
    refine s_alloc ty28 rfl rfl ?_
    intro b2 w1 e0_0 z0_0 hb2 X0_0
    have s0_0_hX := hX.size
    replace hG := hG.keep X0_0 (by simp)
    replace hH := hH.keep0 X0_0
    replace hX : Chg w _ [] := (hX.trans X0_0).mono (by intro k hk hlt; simp at hk ⊢ <;> first | omega | grind)
    refine s_nil ?_
    refine hK1 _ _ ?_
    refine c_seq (fun K3 hK3 => ?_)
    refine c_seqreg (fun K4 hK4 => ?_)
    refine s_val rfl rfl (runs_move rfl) ?_
    refine s_val rfl rfl (runs_len_slice Tryd.underlying25 rfl) ?_
    refine s_val rfl rfl (runs_dt (runs_eqd rfl rfl) (by omega)) ?_
    refine s_nil ?_
    refine hK4 _ _ ?_
    refine c_true rfl ?_
    refine c_seqreg (fun K5 hK5 => ?_)
    refine s_callf (xs := [.const (.pointer none), .const (.slice none 0 0)]) rfl rfl Tryd.func17 rfl (by kernel_rfl) rfl (of0 (bss := []) hG (by omega) (parts_nil _) (by simp)) ?_
    rintro _ w2 ⟨rfl, X2_0⟩
    replace hG := hG.keep X2_0 (by simp)
    replace hX : Chg w _ [] := (hX.trans X2_0).mono (by intro k hk hlt; simp at hk ⊢ <;> first | omega | grind)
    replace hb2 := hb2.keep X2_0 (by simp)
    have zs2_0 := X2_0.size
    refine s_storeAll ty28 rfl rfl rfl hb2 (by rw [natsC_length, (sha_ok _).1]) rfl (natsC_one _ _) ?_
    intro w3 z2_1 h2_1 X2_1
    replace hX : Chg w _ [] := (hX.trans X2_1).mono (by intro k hk hlt; simp at hk ⊢ <;> first | omega | grind)
    replace hb2 := h2_1
    refine s_nil ?_
    refine hK5 _ _ ?_
    refine c_ret ?_
    refine hret _ _ ?_
    exact ends1 (reads_cell ty28 rfl hb2.at (by rw [natsC_length, (sha_ok _).1])) ⟨by rw [Sp.root_nil]; rfl, hX⟩
  | succ m ih =>
    intro hs hm B a n c w hG hBw hH hn
    have hlen := hH.len
    have hX : Chg w w [] := Chg.refl _ _
    refine f_enter (l := [.slice a n c]) Tryd.func21 rfl rfl rfl rfl ?_
    intro Qf hnrm hret
    refine c_seqreg (fun K1 hK1 => ?_)
    refine s_alloc ty28 rfl rfl ?_
    intro b2 w1 e0_0 z0_0 hb2 X0_0
    have s0_0_hX := hX.size
    replace hG := hG.keep X0_0 (by simp)
    replace hH := hH.keep0 X0_0
    replace hX : Chg w _ [] := (hX.trans X0_0).mono (by intro k hk hlt; simp at hk ⊢ <;> first | omega | grind)
    refine s_nil ?_
    refine hK1 _ _ ?_
    refine c_seq (fun K3 hK3 => ?_)
    refine c_seqreg (fun K4 hK4 => ?_)
    refine s_val rfl rfl (runs_move rfl) ?_
    refine s_val rfl rfl (runs_len_slice Tryd.underlying25 rfl) ?_
    refine s_val rfl rfl (runs_eqd rfl rfl) ?_
    refine s_nil ?_
    refine hK4 _ _ ?_
    refine c_dec rfl (fun h0 => ?_) (fun h0 => ?_)
    · obtain rfl : hs = [] := List.eq_nil_of_length_eq_zero (by omega)
      refine c_seqreg (fun K5 hK5 => ?_)
      refine s_callf (xs := [.const (.pointer none), .const (.slice none 0 0)]) rfl rfl Tryd.func17 rfl (by kernel_rfl) rfl (of0 (bss := []) hG (by omega) (parts_nil _) (by simp)) ?_
      rintro _ w2 ⟨rfl, X2_0⟩
      replace hG := hG.keep X2_0 (by simp)
      replace hX : Chg w _ [] := (hX.trans X2_0).mono (by intro k hk hlt; simp at hk ⊢ <;> first | omega | grind)
      replace hb2 := hb2.keep X2_0 (by simp)
      have zs2_0 := X2_0.size
      refine s_storeAll ty28 rfl rfl rfl hb2 (by rw [natsC_length, (sha_ok _).1]) rfl (natsC_one _ _) ?_
      intro w3 z2_1 h2_1 X2_1
      replace hX : Chg w _ [] := (hX.trans X2_1).mono (by intro k hk hlt; simp at hk ⊢ <;> first | omega | grind)
      replace hb2 := h2_1
      refine s_nil ?_
      refine hK5 _ _ ?_
      refine c_ret ?_
      refine hret _ _ ?_
      exact ends1 (reads_cell ty28 rfl hb2.at (by rw [natsC_length, (sha_ok _).1])) ⟨by rw [Sp.root_nil]; rfl, hX⟩
    · refine c_skip ?_
      refine hK3 _ _ ?_
      refine c_seq (fun K8 hK8 => ?_)
      refine c_seqreg (fun K9 hK9 => ?_)
      refine s_val rfl rfl (runs_move rfl) ?_
      refine s_val rfl rfl (runs_len_slice Tryd.underlying25 rfl) ?_
      refine s_val rfl rfl (runs_eqd rfl rfl) ?_
      refine s_nil ?_
      refine hK9 _ _ ?_
      refine c_dec rfl (fun h1 => ?_) (fun h1 => ?_)
      · obtain ⟨x, rfl⟩ : ∃ x, hs = [x] := by
          match hs, hlen with
          | [x], _ => exact ⟨x, rfl⟩
          | [], e => simp at e; omega
          | _ :: _ :: _, e => simp at e; omega
        obtain ⟨ba, oa, rfl⟩ := hH.rd.some_ (by omega)
        have hx32 := hH.ok x (by simp)
        refine c_seqreg (fun K10 hK10 => ?_)
        refine s_val rfl rfl (runs_move rfl) ?_
        refine s_val rfl rfl (runs_index_slice (0) Tryd.underlying25 ty28 rfl rfl (by omega) (by omega)) ?_
        refine s_val rfl rfl (runs_loadAgg ty28 rfl (hH.elem (i := 0) rfl) (by rw [natsC_length, hx32.1])) ?_
        refine s_storeAll ty28 rfl rfl rfl hb2 (by rw [natsC_length, hx32.1]) rfl (natsC_one _ _) ?_
        intro w5 z4_3 h4_3 X4_3
        replace hX : Chg w _ [] := (hX.trans X4_3).mono (by intro k hk hlt; simp at hk ⊢ <;> first | omega | grind)
        replace hb2 := h4_3
        refine s_nil ?_
        refine hK10 _ _ ?_
        refine c_ret ?_
        refine hret _ _ ?_
        exact ends1 (reads_cell ty28 rfl hb2.at (by rw [natsC_length, hx32.1])) ⟨by rw [Sp.root_one], hX⟩
      · refine c_skip ?_
        refine hK8 _ _ ?_
        refine c_seqreg (fun K12 hK12 => ?_)
        refine s_val rfl rfl (runs_assign rfl) ?_
        refine s_nil ?_
        refine hK12 _ _ ?_
        refine c_seq (fun K13 hK13 => ?_)
        refine c_block ?_
        refine c_loop (σ := Nat) (fun k => [(3, .int .i64 (k : Int)), (0, .slice a n c), (2, .pointer (some ⟨b2, 0, none⟩))]) (fun k w' => 0 < k ∧ (∃ f, n ≤ k + f ∧ Sp.splitGo n f k = Sp.split n) ∧ k ≤ n ∧ w' = w1) (fun k => n - k) 1 ⟨rfl, rfl, rfl, trivial⟩ ⟨by omega, ⟨n, by omega, rfl⟩, by omega, rfl⟩ ?_
        rintro k wk ⟨hk, ⟨f, hf, he⟩, hkn, rfl⟩
        refine c_seq (fun K14 hK14 => ?_)
        refine c_seqreg (fun K15 hK15 => ?_)
        refine s_val rfl rfl (runs_move rfl) ?_
        refine s_val rfl rfl (runs_mul64 rfl rfl (by omega)) ?_
        refine s_val rfl rfl (runs_move rfl) ?_
        refine s_val rfl rfl (runs_len_slice Tryd.underlying25 rfl) ?_
        refine s_val rfl rfl (runs_lt rfl rfl) ?_
        refine s_nil ?_
        refine hK15 _ _ ?_
        refine c_dec rfl (fun hlt => ?_) (fun hlt => ?_)
        · refine c_skip ?_
          refine hK14 _ _ ?_
          refine c_block ?_
          refine c_reg ?_
          refine s_val rfl rfl (runs_move rfl) ?_
          refine s_val rfl rfl (runs_mul64 rfl rfl (by omega)) ?_
          refine s_val rfl rfl (runs_assign rfl) ?_
          refine s_nil ?_
          dsimp only [Post.setN]
          exact ⟨2 * k, ⟨i64_eq (by omega), rfl, rfl, trivial⟩, ⟨by omega, ⟨f - 1, by omega, by rw [← he]; exact (Sp.splitGo_step n f k (by omega) hf hk).symm⟩, by omega, rfl⟩, by omega⟩
        · have hk : k = Sp.split n := by rw [← he, Sp.splitGo_stop n f k (by omega)]
          have h2 : 2 ≤ n := by omega
          have hk0 := Sp.split_pos n
          have hk1 := Sp.split_lt h2
          rw [← hk] at hk0 hk1
          have hcn := hH.rd.le
          have hroot : Sp.root hs = Sp.node (Sp.root (hs.take k)) (Sp.root (hs.drop k)) := by rw [Sp.root_two hs (by omega), hlen, ← hk]
          have e1 : (hs.take k).length = k := by rw [List.length_take]; omega
          have e2 : (hs.drop k).length = n - k := by rw [List.length_drop]; omega
          have o1 : HOk (Sp.root (hs.take k)) := root_ok _ _ (Nat.le_refl _) (fun x hx => hH.ok x (List.mem_of_mem_take hx))
          have o2 : HOk (Sp.root (hs.drop k)) := root_ok _ _ (Nat.le_refl _) (fun x hx => hH.ok x (List.mem_of_mem_drop hx))
          have hz2 := hb2.lt
          refine c_exit ?_
          refine hK13 _ _ ?_
          refine c_seqdraw [11] ([]) (by kernel_rfl) ?_
          intro K16 hK16 wd8 Xd8 hS8
          replace hG := hG.keep Xd8 (by simp)
          replace hH := hH.keep0 Xd8
          replace hX : Chg w _ [] := (hX.trans Xd8).mono (by intro k hk hlt; simp at hk ⊢ <;> first | omega | grind)
          replace hb2 := hb2.keep Xd8 (by simp)
          have zd8 := Xd8.size
          have hzd8 := Xd8.size
          refine d_take 0 23 rfl (by kernel_rfl) rfl hS8 (fun wS hS => runs_move rfl) ?_
          refine d_take 1 24 rfl (by kernel_rfl) rfl hS8 (fun wS hS => runs_move rfl) ?_
          refine d_take 2 25 rfl (by kernel_rfl) rfl hS8 (fun wS hS => runs_slice_to (k) Tryd.underlying25 ty28 rfl rfl (by omega) (by omega)) ?_
          refine d_take 4 27 rfl (by kernel_rfl) rfl hS8 (fun wS hS => runs_move rfl) ?_
          refine d_take 5 28 rfl (by kernel_rfl) rfl hS8 (fun wS hS => runs_move rfl) ?_
          refine d_take 6 29 rfl (by kernel_rfl) rfl hS8 (fun wS hS => runs_slice_from (k) Tryd.underlying25 ty28 rfl rfl (by omega) (by omega)) ?_
          refine d_seg 2 [3, 7, 8, 9] [[], [3], [], []] [8, 9] [3, 7, 8, 9] (fun i => match i with | 3 => SA.eq (hv (Sp.root (hs.take k))) | 7 => SA.eq (hv (Sp.root (hs.drop k))) | 8 => SA.mem wd8.heap.size (List.replicate 32 (.int .u8 0)) 28 | 9 => SA.mem wd8.heap.size (List.replicate 32 (.int .u8 0)) 28 | _ => SA.any) #[true, true, true, true, true, true, true, true, true, true, false, false] (by kernel_rfl) (by kernel_rfl) (by decide) (by kernel_rfl) (fun _ X => hS8.trans X) ?_ ?_
          · refine obl_cons rfl ?_ ?_
            · intro wo Xo
              have Xo' : Chg wd8 wo [] := hS8.trans Xo
              have hSo := Xo'
              replace hG := hG.keep Xo' (by simp)
              replace hX : Chg w _ [] := (hX.trans Xo').mono (by intro k hk hlt; simp at hk ⊢ <;> first | omega | grind)
              replace hb2 := hb2.keep Xo' (by simp)
              replace hH := hH.keep0 Xo'
              refine wv_nil ?_
              refine s_callf (xs := [.tmp 25]) rfl rfl Tryd.func21 rfl (by kernel_rfl) rfl (ih (hs.take k) (by omega) B _ _ _ _ hG (by have := Xo'.size; omega) (hH.to_ k (by omega)) (by omega)) ?_
              rintro _ wc ⟨rfl, X8_3⟩
              have zs8_3 := X8_3.size
              exact s_nil ⟨X8_3, fun d hd => by cases hd; exact ⟨_, rfl, rfl, fun h => absurd h (by decide)⟩⟩
            refine obl_cons rfl ?_ ?_
            · intro wo Xo
              have Xo' : Chg wd8 wo [] := hS8.trans Xo
              have hSo := Xo'
              replace hG := hG.keep Xo' (by simp)
              replace hX : Chg w _ [] := (hX.trans Xo').mono (by intro k hk hlt; simp at hk ⊢ <;> first | omega | grind)
              replace hb2 := hb2.keep Xo' (by simp)
              replace hH := hH.keep0 Xo'
              refine wv_cons rfl ?_
              rintro _ rfl
              refine wv_nil ?_
              refine s_callf (xs := [.tmp 29]) rfl rfl Tryd.func21 rfl (by kernel_rfl) rfl (ih (hs.drop k) (by omega) B _ _ _ _ hG (by have := Xo'.size; omega) (hH.from_ k (by omega)) (by omega)) ?_
              rintro _ wc ⟨rfl, X8_7⟩
              have zs8_7 := X8_7.size
              exact s_nil ⟨X8_7, fun d hd => by cases hd; exact ⟨_, rfl, rfl, fun h => absurd h (by decide)⟩⟩
            refine obl_cons rfl ?_ ?_
            · intro wo Xo
              have Xo' : Chg wd8 wo [] := hS8.trans Xo
              have hSo := Xo'
              replace hG := hG.keep Xo' (by simp)
              replace hX : Chg w _ [] := (hX.trans Xo').mono (by intro k hk hlt; simp at hk ⊢ <;> first | omega | grind)
              replace hb2 := hb2.keep Xo' (by simp)
              replace hH := hH.keep0 Xo'
              refine wv_nil ?_
              refine s_alloc ty28 rfl rfl ?_
              intro b8_8 w8_8 e8_8 z8_8 hb8_8 X8_8
              exact s_nil ⟨X8_8, fun d hd => by cases hd; exact ⟨_, rfl, ⟨_, rfl, by have := hSo.size; omega, hb8_8⟩, fun _ b hb => by simp [blkOf] at hb; omega⟩⟩
            refine obl_cons rfl ?_ ?_
            · intro wo Xo
              have Xo' : Chg wd8 wo [] := hS8.trans Xo
              have hSo := Xo'
              replace hG := hG.keep Xo' (by simp)
              replace hX : Chg w _ [] := (hX.trans Xo').mono (by intro k hk hlt; simp at hk ⊢ <;> first | omega | grind)
              replace hb2 := hb2.keep Xo' (by simp)
              replace hH := hH.keep0 Xo'
              refine wv_nil ?_
              refine s_alloc ty28 rfl rfl ?_
              intro b8_9 w8_9 e8_9 z8_9 hb8_9 X8_9
              exact s_nil ⟨X8_9, fun d hd => by cases hd; exact ⟨_, rfl, ⟨_, rfl, by have := hSo.size; omega, hb8_9⟩, fun _ b hb => by simp [blkOf] at hb; omega⟩⟩
            exact obl_nil
          intro w8_s3 X8_s3
          refine wv_cons rfl ?_
          rintro _ rfl
          refine wv_cons rfl ?_
          rintro _ rfl
          refine wv_cons rfl ?_
          rintro _ ⟨b8_8, rfl, hlo8_8, hb8_8⟩
          refine wv_cons rfl ?_
          rintro _ ⟨b8_9, rfl, hlo8_9, hb8_9⟩
          refine wv_nil ?_
          intro hD8_s3
          replace hS8 : Chg wd8 _ [] := hS8.trans X8_s3
          have hd89 : b8_8 ≠ b8_9 := hD8_s3 8 (by simp) 9 (by simp) (by decide) _ _ _ _ _ _ rfl rfl rfl rfl rfl rfl
          have hzs8 := X8_s3.size
          refine d_only 10 rfl (by kernel_rfl) ?_
          refine s_storeAll ty28 rfl rfl rfl hb8_8 (by rw [natsC_length, o1.1]) rfl (natsC_one _ _) ?_
          intro w810 z8_10 h8_10 X8_10
          replace hb8_9 := hb8_9.keep X8_10 (by simp; omega)
          replace hb8_8 := h8_10
          replace hS8 : Chg wd8 _ [] := (hS8.trans X8_10).mono (by intro k hk hlt; simp at hk; omega)
          refine s_nil ⟨.inr hS8, ?_⟩
          refine d_only 11 rfl (by kernel_rfl) ?_
          replace hG := hG.keep hS8 (by simp)
          replace hX : Chg w _ [] := (hX.trans hS8).mono (by intro k hk hlt; simp at hk ⊢ <;> first | omega | grind)
          replace hb2 := hb2.keep hS8 (by simp)
          replace hH := hH.keep0 hS8
          refine s_storeAll ty28 rfl rfl rfl hb8_9 (by rw [natsC_length, o2.1]) rfl (natsC_one _ _) ?_
          intro w811 z8_11 h8_11 X8_11
          replace hG := hG.keep X8_11 (by simp; omega)
          replace hX : Chg w _ [] := (hX.trans X8_11).mono (by intro k hk hlt; simp at hk ⊢ <;> first | omega | grind)
          replace hb2 := hb2.keep X8_11 (by simp; omega)
          replace hb8_8 := hb8_8.keep X8_11 (by simp; omega)
          replace hb8_9 := h8_11
          refine s_nil ⟨.inl rfl, ?_⟩
          refine d_done (by kernel_rfl) ?_
          refine hK16 _ _ ?_
          refine c_seqdraw [5] ([]) (by kernel_rfl) ?_
          intro K24 hK24 wd9 Xd9 hS9
          replace hG := hG.keep Xd9 (by simp)
          replace hX : Chg w _ [] := (hX.trans Xd9).mono (by intro k hk hlt; simp at hk ⊢ <;> first | omega | grind)
          replace hb2 := hb2.keep Xd9 (by simp)
          replace hb8_8 := hb8_8.keep Xd9 (by simp)
          replace hb8_9 := hb8_9.keep Xd9 (by simp)
          have zd9 := Xd9.size
          have hzd9 := Xd9.size
          have hzx := hX.size
          refine d_take 1 32 rfl (by kernel_rfl) rfl hS9 (fun wS hS => runs_slice_arr Tryd.underlying28 ty5 rfl) ?_
          refine d_take 2 33 rfl (by kernel_rfl) rfl hS9 (fun wS hS => runs_slice_arr Tryd.underlying28 ty5 rfl) ?_
          refine d_only 0 rfl (by kernel_rfl) ?_
          refine s_lit (xs := [.const (.int .u8 1)]) Tryd.underlying32 ty5 rfl rfl rfl rfl rfl (by simp [Value.cells]) (by decide) (by decide) ?_
          intro b90 w90 e9_0 z9_0 hb90 X9_0
          replace hS9 : Chg wd9 _ [] := hS9.trans X9_0
          refine s_nil ⟨.inr hS9, ?_⟩
          refine d_only 3 rfl (by kernel_rfl) ?_
          refine s_lit (xs := [.tmp 31, .tmp 32, .tmp 33]) Tryd.underlying22 ty32 rfl rfl rfl rfl rfl (by simp [Value.cells]) (by decide) (by decide) ?_
          intro b93 w93 e9_3 z9_3 hb93 X9_3
          have s9_3_hb90 := hb90.lt
          replace hb90 := hb90.keep X9_3 (by simp)
          have hsz93 := (X9_0.trans X9_3).size
          have hp93 := parts_three hb93 (lit1 (x := 1) hb90) (lit_reads ((hb8_8.keep hS9 (by simp)).keep X9_3 (by simp)) (by rw [natsC_length, o1.1]) (by decide)) (lit_reads ((hb8_9.keep hS9 (by simp)).keep X9_3 (by simp)) (by rw [natsC_length, o2.1]) (by decide)) (by simp) o1.2 o2.2
          replace hS9 : Chg wd9 _ [] := hS9.trans X9_3
          refine s_nil ⟨.inr hS9, ?_⟩
          refine d_only 4 rfl (by kernel_rfl) ?_
          refine s_callf (xs := [.const (.pointer none), .tmp 34]) rfl rfl Tryd.func17 rfl (by kernel_rfl) rfl (of0 (hG.keep hS9 (by simp)) (by have := hS9.size; omega) hp93 (by simp [o1.1, o2.1])) ?_
          rintro _ w94 ⟨rfl, X9_4⟩
          have zs9_4 := X9_4.size
          replace hS9 : Chg wd9 _ [] := hS9.trans X9_4
          refine s_nil ⟨.inr hS9, ?_⟩
          refine d_only 5 rfl (by kernel_rfl) ?_
          replace hG := hG.keep hS9 (by simp)
          replace hX : Chg w _ [] := (hX.trans hS9).mono (by intro k hk hlt; simp at hk ⊢ <;> first | omega | grind)
          replace hb2 := hb2.keep hS9 (by simp)
          replace hb8_8 := hb8_8.keep hS9 (by simp)
          replace hb8_9 := hb8_9.keep hS9 (by simp)
          refine s_storeAll ty28 rfl rfl rfl hb2 (by rw [natsC_length, (sha_ok _).1]) rfl (natsC_one _ _) ?_
          intro w95 z9_5 h9_5 X9_5
          replace hX : Chg w _ [] := (hX.trans X9_5).mono (by intro k hk hlt; simp at hk ⊢ <;> first | omega | grind)
          replace hb2 := h9_5
          refine s_nil ⟨.inl rfl, ?_⟩
          refine d_done (by kernel_rfl) ?_
          refine hK24 _ _ ?_
          refine c_ret ?_
          refine hret _ _ ?_
          exact ends1 (reads_cell ty28 rfl hb2.at (by rw [natsC_length, (sha_ok _).1])) ⟨by rw [hroot]; simp [Sp.node], hX⟩
end Go.Proofs.YtecpedpfkdnfhaaDoor
