/- Part Tapes of the proofs on this seat. Conditions: none beyond those in the theorems. By an AI agent. -/
import Derived.Test.YtecpedpfkdnfhaaDoorLaw2
import Derived.Test.YtecpedpfkdnfhaaDoorRoots
namespace Go.Proofs.YtecpedpfkdnfhaaDoor
open Go Go.RowKit

theorem climbN_full (x : List Nat) : ∀ (k : Nat) (p : List (List Nat)) (i n : Nat), p.length ≤ k → (Sp.climb x i n p).2 = true → (Sp.climbN x i n p).length = p.length := by
  intro k
  induction k with
  | zero => intro p i n h _; rw [List.eq_nil_of_length_eq_zero (show p.length = 0 by omega), Sp.climbN_nil]
  | succ k ih =>
    intro p i n h hc
    rcases List.eq_nil_or_concat p with rfl | ⟨q, last, rfl⟩
    · rw [Sp.climbN_nil]
    rw [List.concat_eq_append] at h hc ⊢
    rw [List.length_append, List.length_singleton] at h
    by_cases h1 : n ≤ 1
    · rw [Sp.climb_one _ _ _ _ h1] at hc; simp at hc
    by_cases hi : i < Sp.split n
    · rw [Sp.climb_lo _ _ _ _ _ (by omega) hi] at hc
      rw [Sp.climbN_lo _ _ _ _ _ (by omega) hi, List.length_append, List.length_append, ih q _ _ (by omega) hc]; rfl
    · rw [Sp.climb_hi _ _ _ _ _ (by omega) hi] at hc
      rw [Sp.climbN_hi _ _ _ _ _ (by omega) hi, List.length_append, List.length_append, ih q _ _ (by omega) hc]; rfl
theorem climbN_last (x : List Nat) (hx : HOk x) (p : List (List Nat)) (okp : ∀ y ∈ p, HOk y) (i n : Nat) (hp : 0 < p.length) (hc : (Sp.climb x i n p).2 = true) : ∃ z, (Sp.climbN x i n p)[p.length - 1]? = some z ∧ Sp.sha z = (Sp.climb x i n p).1 ∧ z.length = 65 ∧ z[0]? = some 1 ∧ ∀ v ∈ z, v < 256 := by
  rcases List.eq_nil_or_concat p with rfl | ⟨q, last, rfl⟩
  · simp at hp
  rw [List.concat_eq_append] at hc okp ⊢
  have okl := okp last (by simp)
  have okq : ∀ e ∈ q, HOk e := fun e he => okp e (by simp [he])
  by_cases h1 : n ≤ 1
  · rw [Sp.climb_one _ _ _ _ h1] at hc; simp at hc
  by_cases hi : i < Sp.split n
  · rw [Sp.climb_lo _ _ _ _ _ (by omega) hi] at hc ⊢
    have oc := climb_ok x hx _ q i (Sp.split n) (Nat.le_refl _)
    refine ⟨1 :: ((Sp.climb x i (Sp.split n) q).1 ++ last), ?_, rfl, by simp [oc.1, okl.1], rfl, ?_⟩
    · rw [Sp.climbN_lo _ _ _ _ _ (by omega) hi, List.length_append, List.length_singleton, List.getElem?_append_right (by rw [climbN_full x _ q _ _ (Nat.le_refl _) hc]; omega), climbN_full x _ q _ _ (Nat.le_refl _) hc]; simp
    · intro v hv; simp at hv; rcases hv with rfl | hv | hv; omega; exact oc.2 v hv; exact okl.2 v hv
  · rw [Sp.climb_hi _ _ _ _ _ (by omega) hi] at hc ⊢
    have oc := climb_ok x hx _ q (i - Sp.split n) (n - Sp.split n) (Nat.le_refl _)
    refine ⟨1 :: (last ++ (Sp.climb x (i - Sp.split n) (n - Sp.split n) q).1), ?_, rfl, by simp [oc.1, okl.1], rfl, ?_⟩
    · rw [Sp.climbN_hi _ _ _ _ _ (by omega) hi, List.length_append, List.length_singleton, List.getElem?_append_right (by rw [climbN_full x _ q _ _ (Nat.le_refl _) hc]; omega), climbN_full x _ q _ _ (Nat.le_refl _) hc]; simp
    · intro v hv; simp at hv; rcases hv with rfl | hv | hv; omega; exact okl.2 v hv; exact oc.2 v hv
/-- Between two rounds. -/
structure RI (wc W : World) (b11 b12 : Nat) (tvs : List Value) (i : Nat) : Prop where
  v11 : Blk W b11 [if i = 0 then .slice none 0 0 else tvs.getD (i - 1) undef] 32
  v12 : Blk W b12 [.int .i64 (i : Int)] 3
  df : ObjAt W wc.heap.size (.deferred (some []))
  chg : Chg wc W [b11, b12]

set_option maxHeartbeats 4000000 in
theorem tapes_calls (B : Nat) (bss : List (List Nat)) (a : Option Addr) (n c : Nat) (kt : Int) (w : World) (hG0 : GH B w) (hBw : B ≤ w.heap.size) (hP : Parts w a n c bss) :
    CallsR Tryd.prog 8 #[.slice a n c, .int .i64 kt] w fun v w' => v = .bool true ∧ Chg w w' [] := by
  have hlen := hP.length
  have hX : Chg w w [] := Chg.refl _ _
  have hG := hG0
  cases hL : Sp.light bss with
  | false =>
    refine f_tail (args := [.slice a n c, .int .i64 kt]) Tryd.func8 rfl rfl rfl rfl ?_
    refine t_seq (fun K1 hK1 => ?_)
    refine c_reg ?_
    refine s_val rfl rfl (runs_assign rfl) ?_
    refine s_nil ?_
    refine hK1 _ _ ?_
    refine t_seq (fun K2 hK2 => ?_)
    refine c_seqreg (fun K3 hK3 => ?_)
    refine s_callf (xs := []) rfl rfl Tryd.func12 rfl (by kernel_rfl) rfl (fit_calls B _ hG (by omega)) ?_
    rintro _ w1 ⟨rfl, X1_0⟩
    replace hG := hG.keep X1_0 (by simp)
    replace hX : Chg w _ [] := (hX.trans X1_0).mono (by intro k hk hlt; simp at hk ⊢ <;> first | omega | grind)
    have zs1_0 := X1_0.size
    refine s_val rfl rfl (runs_not rfl) ?_
    refine s_nil ?_
    refine hK3 _ _ ?_
    refine c_false rfl ?_
    refine c_skip ?_
    refine hK2 _ _ ?_
    refine t_seq (fun K5 hK5 => ?_)
    refine c_seqreg (fun K6 hK6 => ?_)
    refine s_val rfl rfl (runs_move rfl) ?_
    refine s_callf (xs := [.tmp 16]) rfl rfl Tryd.func13 rfl (by kernel_rfl) rfl (light_calls bss _ _ _ _ (hP.grow hX)) ?_
    rintro _ w3 ⟨rfl, X3_1⟩
    replace hG := hG.keep X3_1 (by simp)
    replace hX : Chg w _ [] := (hX.trans X3_1).mono (by intro k hk hlt; simp at hk ⊢ <;> first | omega | grind)
    have zs3_1 := X3_1.size
    rw [hL]
    refine s_val rfl rfl (runs_not rfl) ?_
    refine s_val rfl rfl (runs_move rfl) ?_
    refine s_skip rfl rfl ?_
    refine s_skip rfl rfl ?_
    refine s_skip rfl rfl ?_
    refine s_val rfl rfl (runs_pickt rfl rfl) ?_
    refine s_nil ?_
    refine hK6 _ _ ?_
    refine c_true rfl ?_
    refine c_seqreg (fun K8 hK8 => ?_)
    refine s_val rfl rfl (runs_assign rfl) ?_
    refine s_nil ?_
    refine hK8 _ _ ?_
    refine c_ret ?_
    dsimp only [endP]
    exact ends1 (reads_tmp rfl) ⟨rfl, hX⟩
  | true =>
    have hl1 := Sp.light_len hL
    have hl2 := Sp.light_each hL
    refine f_tail (args := [.slice a n c, .int .i64 kt]) Tryd.func8 rfl rfl rfl rfl ?_
    rcases Decidable.em (n = 0) with h0 | h0
    · skip
      refine t_seq (fun K1 hK1 => ?_)
      refine c_reg ?_
      refine s_val rfl rfl (runs_assign rfl) ?_
      refine s_nil ?_
      refine hK1 _ _ ?_
      refine t_seq (fun K2 hK2 => ?_)
      refine c_seqreg (fun K3 hK3 => ?_)
      refine s_callf (xs := []) rfl rfl Tryd.func12 rfl (by kernel_rfl) rfl (fit_calls B _ hG (by omega)) ?_
      rintro _ w1 ⟨rfl, X1_0⟩
      replace hG := hG.keep X1_0 (by simp)
      replace hX : Chg w _ [] := (hX.trans X1_0).mono (by intro k hk hlt; simp at hk ⊢ <;> first | omega | grind)
      have zs1_0 := X1_0.size
      refine s_val rfl rfl (runs_not rfl) ?_
      refine s_nil ?_
      refine hK3 _ _ ?_
      refine c_false rfl ?_
      refine c_skip ?_
      refine hK2 _ _ ?_
      refine t_seq (fun K5 hK5 => ?_)
      refine c_seqreg (fun K6 hK6 => ?_)
      refine s_val rfl rfl (runs_move rfl) ?_
      refine s_callf (xs := [.tmp 16]) rfl rfl Tryd.func13 rfl (by kernel_rfl) rfl (light_calls bss _ _ _ _ (hP.grow hX)) ?_
      rintro _ w3 ⟨rfl, X3_1⟩
      replace hG := hG.keep X3_1 (by simp)
      replace hX : Chg w _ [] := (hX.trans X3_1).mono (by intro k hk hlt; simp at hk ⊢ <;> first | omega | grind)
      have zs3_1 := X3_1.size
      rw [hL]
      refine s_val rfl rfl (runs_not rfl) ?_
      refine s_val rfl rfl (runs_move rfl) ?_
      refine s_val rfl rfl (runs_move rfl) ?_
      refine s_val rfl rfl (runs_len_slice Tryd.underlying22 rfl) ?_
      refine s_val rfl rfl (runs_dt (runs_eqd rfl rfl) (by omega)) ?_
      refine s_val rfl rfl (runs_pickf rfl rfl) ?_
      refine s_nil ?_
      refine hK6 _ _ ?_
      refine c_true rfl ?_
      refine c_seqreg (fun K8 hK8 => ?_)
      refine s_val rfl rfl (runs_assign rfl) ?_
      refine s_nil ?_
      refine hK8 _ _ ?_
      refine c_ret ?_
      dsimp only [endP]
      exact ends1 (reads_tmp rfl) ⟨rfl, hX⟩
    · have hn0 : 0 < n := by omega
      refine t_seq (fun K1 hK1 => ?_)
      refine c_reg ?_
      refine s_val rfl rfl (runs_assign rfl) ?_
      refine s_nil ?_
      refine hK1 _ _ ?_
      refine t_seq (fun K2 hK2 => ?_)
      refine c_seqreg (fun K3 hK3 => ?_)
      refine s_callf (xs := []) rfl rfl Tryd.func12 rfl (by kernel_rfl) rfl (fit_calls B _ hG (by omega)) ?_
      rintro _ w1 ⟨rfl, X1_0⟩
      replace hG := hG.keep X1_0 (by simp)
      replace hX : Chg w _ [] := (hX.trans X1_0).mono (by intro k hk hlt; simp at hk ⊢ <;> first | omega | grind)
      have zs1_0 := X1_0.size
      refine s_val rfl rfl (runs_not rfl) ?_
      refine s_nil ?_
      refine hK3 _ _ ?_
      refine c_false rfl ?_
      refine c_skip ?_
      refine hK2 _ _ ?_
      refine t_seq (fun K5 hK5 => ?_)
      refine c_seqreg (fun K6 hK6 => ?_)
      refine s_val rfl rfl (runs_move rfl) ?_
      refine s_callf (xs := [.tmp 16]) rfl rfl Tryd.func13 rfl (by kernel_rfl) rfl (light_calls bss _ _ _ _ (hP.grow hX)) ?_
      rintro _ w3 ⟨rfl, X3_1⟩
      replace hG := hG.keep X3_1 (by simp)
      replace hX : Chg w _ [] := (hX.trans X3_1).mono (by intro k hk hlt; simp at hk ⊢ <;> first | omega | grind)
      have zs3_1 := X3_1.size
      rw [hL]
      refine s_val rfl rfl (runs_not rfl) ?_
      refine s_val rfl rfl (runs_move rfl) ?_
      refine s_val rfl rfl (runs_move rfl) ?_
      refine s_val rfl rfl (runs_len_slice Tryd.underlying22 rfl) ?_
      refine s_val rfl rfl (runs_df (runs_eqd rfl rfl) (by omega)) ?_
      refine s_val rfl rfl (runs_pickf rfl rfl) ?_
      refine s_nil ?_
      refine hK6 _ _ ?_
      refine c_false rfl ?_
      refine c_skip ?_
      refine hK5 _ _ ?_
      refine t_seq (fun K8 hK8 => ?_)
      refine c_reg ?_
      refine s_val rfl rfl (runs_move rfl) ?_
      refine s_callf (xs := [.tmp 24]) rfl rfl Tryd.func14 rfl (by kernel_rfl) rfl (leaves_calls B bss _ _ _ _ hG (by omega) (hP.grow hX) hL) ?_
      rintro vh w5 ⟨hown, X5_1⟩
      replace hG := hG.keep X5_1 (by simp)
      replace hX : Chg w _ [] := (hX.trans X5_1).mono (by intro k hk hlt; simp at hk ⊢ <;> first | omega | grind)
      have zs5_1 := X5_1.size
      obtain ⟨hs, hhs⟩ : ∃ hs, hs = bss.map Sp.leaf := ⟨_, rfl⟩
      rw [← hhs] at hown
      have hsok : ∀ x ∈ hs, HOk x := by rw [hhs]; exact leaves_ok bss
      obtain ⟨g, ch, rfl, hB8, hgw⟩ := hsb_of_own hown hsok (by rw [hhs, List.length_map, hlen]) hn0
      have hgl := hB8.lt
      have hsl : hs.length = n := hB8.len
      have hcn := hB8.le
      refine s_val rfl rfl (runs_assign rfl) ?_
      refine s_nil ?_
      have hzX5 := hX.size
      obtain ⟨i, hi⟩ : ∃ i, i = land64 kt 1023 % n := ⟨_, rfl⟩
      have hin : i < n := by rw [hi]; exact Nat.mod_lt _ hn0
      obtain ⟨x, hx⟩ : ∃ x, hs[i]? = some x := ⟨_, List.getElem?_eq_getElem (by omega)⟩
      have okx := hsok x (List.mem_of_getElem? hx)
      refine hK8 _ _ ?_
      refine t_seq (fun K10 hK10 => ?_)
      refine c_reg ?_
      refine s_val rfl rfl (runs_move rfl) ?_
      refine s_val rfl rfl (runs_and64 1023 rfl (by decide)) ?_
      refine s_val rfl rfl (runs_move rfl) ?_
      refine s_val rfl rfl (runs_len_slice Tryd.underlying25 rfl) ?_
      refine s_val rfl rfl (runs_as (v' := .int .i64 (i : Int)) (runs_rem64 rfl rfl (by omega) (by omega)) (congrArg (Value.int .i64) (by rw [hi]; simp))) ?_
      refine s_val rfl rfl (runs_assign rfl) ?_
      refine s_nil ?_
      refine hK10 _ _ ?_
      refine t_seq (fun K11 hK11 => ?_)
      refine c_reg ?_
      refine s_val rfl rfl (runs_move rfl) ?_
      refine s_val rfl rfl (runs_move rfl) ?_
      refine s_callf (xs := [.const (.pointer none), .tmp 32, .tmp 33]) rfl rfl Tryd.func22 rfl (by kernel_rfl) rfl (path_calls _ hs (Nat.le_refl _) B i _ _ _ _ hG (by omega) hB8.rd (by omega) (by omega)) ?_
      rintro _ w7 ⟨vp, rfl, hovp, X7_2⟩
      replace hG := hG.keep X7_2 (by simp)
      replace hX : Chg w _ [] := (hX.trans X7_2).mono (by intro k hk hlt; simp at hk ⊢ <;> first | omega | grind)
      replace hB8 := hB8.keep X7_2 (by simp)
      have zs7_2 := X7_2.size
      obtain ⟨p, hp⟩ : ∃ p, p = Sp.path hs i := ⟨_, rfl⟩
      rw [← hp] at hovp
      have okp : ∀ x ∈ p, HOk x := by rw [hp]; exact path_ok _ hs i (Nat.le_refl _) hsok
      obtain ⟨ap, cp, rfl, hHp, hobp⟩ := own_hs hovp okp rfl
      have hltp : ∀ q, ap = some q → w5.heap.size ≤ q.block ∧ q.block < w7.heap.size := fun q hq => hovp.lt q.block (by rw [hobp, hq]; rfl)
      have hpl : p.length ≤ n := by rw [hp, ← hsl]; exact Sp.path_len hs i
      have hcp : Sp.climb x i n p = (Sp.root hs, true) := by have := Sp.climb_path _ hs i x (Nat.le_refl _) hx; rw [hsl, ← hp] at this; exact this
      have hro' := root_ok _ _ (Nat.le_refl _) hsok
      refine s_val rfl rfl (runs_move rfl) ?_
      refine s_val rfl rfl (runs_extract rfl rfl) ?_
      refine s_val rfl rfl (runs_extract rfl rfl) ?_
      refine s_val rfl rfl (runs_assign rfl) ?_
      refine s_val rfl rfl (runs_assign rfl) ?_
      refine s_nil ?_
      have hzX7 := hX.size
      refine hK11 _ _ ?_
      refine t_seq (fun K13 hK13 => ?_)
      refine c_reg ?_
      refine s_val rfl rfl (runs_build_zeroS (xs := #[(0, 1)]) Tryd.underlying37 ty37 rfl (by kernel_rfl)) ?_
      refine s_box rfl rfl rfl ?_
      intro bt w8t e8_1 z8_1 hbt X8_1
      have s8_1_hX := hX.size
      replace hG := hG.keep X8_1 (by simp)
      replace hX : Chg w _ [] := (hX.trans X8_1).mono (by intro k hk hlt; simp at hk ⊢ <;> first | omega | grind)
      replace hB8 := hB8.keep X8_1 (by simp)
      replace hHp := hHp.keep0 X8_1
      replace hbt : Blk w8t bt ([.slice none 0 0]) 37 := hbt
      have hlbt := hbt.lt
      have hT := TL.new (B := B) (lo := bt) hbt (by omega) (by omega)
      refine s_val rfl rfl (runs_assign rfl) ?_
      refine s_nil ?_
      refine hK13 _ _ ?_
      refine t_seq (fun K15 hK15 => ?_)
      refine c_reg ?_
      refine s_val rfl rfl (runs_move rfl) ?_
      refine s_val rfl rfl (runs_move rfl) ?_
      refine s_val rfl rfl (runs_move rfl) ?_
      refine s_val rfl rfl (runs_index_slice (i) Tryd.underlying25 ty28 rfl rfl (by omega) (by omega)) ?_
      refine s_val rfl rfl (runs_loadAgg ty28 rfl (hB8.rd.elem hx) (by rw [natsC_length, okx.1])) ?_
      refine s_val rfl rfl (runs_move rfl) ?_
      refine s_val rfl rfl (runs_move rfl) ?_
      refine s_val rfl rfl (runs_len_slice Tryd.underlying25 rfl) ?_
      refine s_val rfl rfl (runs_move rfl) ?_
      refine s_callf (xs := [.tmp 40, .tmp 44, .tmp 45, .tmp 47, .tmp 48]) rfl rfl Tryd.func23 rfl (by kernel_rfl) rfl (hT.climb [] (by simp) hG (by omega) okx hHp (fun q hq => .inl (by have := hltp q hq; omega)) (fun q hq _ => by have := hltp q hq; omega) (by omega) (by omega) hin (by simp <;> omega)) ?_
      rintro _ w99 ⟨rfl, vt99, hC99⟩
      replace hG := hG.keep hC99.chg (fun k hk => by have h := hC99.ft k hk; simp [Rg] at h <;> omega)
      replace hX : Chg w _ [] := (hX.trans hC99.chg).mono (by intro k hk hlt; have h := hC99.ft k (by simpa using hk); simp [Rg] at h <;> omega)
      replace hB8 := hB8.keep hC99.chg (fun hm => by have h := hC99.ft _ hm; simp [Rg] at h <;> omega)
      replace hHp := hHp.keep hC99.chg (fun q hq hm => by have h := hC99.ft _ hm; have := hltp q hq; simp [Rg] at h <;> omega)
      have zs9_9 := hC99.chg.size
      have hT := hC99.tl
      rw [hcp]
      refine s_val rfl rfl (runs_move rfl) ?_
      refine s_val rfl rfl (runs_extract rfl rfl) ?_
      refine s_val rfl rfl (runs_extract rfl rfl) ?_
      refine s_alloc ty28 rfl rfl ?_
      intro b9 w913 e9_13 z9_13 hb9 X9_13
      have s9_13_hX := hX.size
      replace hG := hG.keep X9_13 (by simp)
      replace hX : Chg w _ [] := (hX.trans X9_13).mono (by intro k hk hlt; simp at hk ⊢ <;> first | omega | grind)
      replace hB8 := hB8.keep X9_13 (by simp)
      replace hHp := hHp.keep0 X9_13
      replace hT := hT.keep X9_13 (by simp)
      refine s_storeAll ty28 rfl rfl rfl hb9 (by rw [natsC_length, hro'.1]) rfl (natsC_one _ _) ?_
      intro w914 z9_14 h9_14 X9_14
      replace hG := hG.keep X9_14 (by simp; omega)
      replace hX : Chg w _ [] := (hX.trans X9_14).mono (by intro k hk hlt; simp at hk ⊢ <;> first | omega | grind)
      replace hB8 := hB8.keep X9_14 (by simp; omega)
      replace hT := hT.keep X9_14 (by simp [Rg] <;> omega)
      replace hb9 := h9_14
      refine s_val rfl rfl (runs_assign rfl) ?_
      refine s_nil ?_
      have hl9 := hb9.lt
      refine hK15 _ _ ?_
      refine t_seq (fun K19 hK19 => ?_)
      refine c_reg ?_
      refine s_alloc ty32 rfl rfl ?_
      intro b11 w10 e10_0 z10_0 hb11 X10_0
      have s10_0_hX := hX.size
      have s10_0_hb9 := hb9.lt
      replace hG := hG.keep X10_0 (by simp)
      replace hX : Chg w _ [] := (hX.trans X10_0).mono (by intro k hk hlt; simp at hk ⊢ <;> first | omega | grind)
      replace hB8 := hB8.keep X10_0 (by simp)
      replace hT := hT.keep X10_0 (by simp)
      replace hb9 := hb9.keep X10_0 (by simp)
      replace hb11 : Blk w10 b11 ([.slice none 0 0]) 32 := hb11
      refine s_nil ?_
      have hl11 := hb11.lt
      refine hK19 _ _ ?_
      refine t_seq (fun K21 hK21 => ?_)
      refine c_reg ?_
      refine s_alloc ty3 rfl rfl ?_
      intro b12 w11 e11_0 z11_0 hb12 X11_0
      have s11_0_hX := hX.size
      have s11_0_hb9 := hb9.lt
      have s11_0_hb11 := hb11.lt
      replace hG := hG.keep X11_0 (by simp)
      replace hX : Chg w _ [] := (hX.trans X11_0).mono (by intro k hk hlt; simp at hk ⊢ <;> first | omega | grind)
      replace hB8 := hB8.keep X11_0 (by simp)
      replace hT := hT.keep X11_0 (by simp)
      replace hb9 := hb9.keep X11_0 (by simp)
      replace hb11 := hb11.keep X11_0 (by simp)
      refine s_store1 ty3 rfl rfl rfl hb12 (by rfl) (by simp [Value.cells]) ?_
      intro w111 z11_1 h11_1 X11_1
      replace hG := hG.keep X11_1 (by simp; omega)
      replace hX : Chg w _ [] := (hX.trans X11_1).mono (by intro k hk hlt; simp at hk ⊢ <;> first | omega | grind)
      replace hB8 := hB8.keep X11_1 (by simp; omega)
      replace hT := hT.keep X11_1 (by simp [Rg] <;> omega)
      replace hb9 := hb9.keep X11_1 (by simp; omega)
      replace hb11 := hb11.keep X11_1 (by simp; omega)
      replace hb12 := h11_1
      refine s_nil ?_
      have hl12 := hb12.lt
      have hzX11 := hX.size
      refine hK21 _ _ ?_
      refine t_seq2 (fun K24 hK24 => ?_)
      refine c_reg ?_
      refine s_val rfl rfl (runs_move rfl) ?_
      refine s_val rfl rfl (runs_makeFunc rfl) ?_
      refine s_nil ?_
      obtain ⟨w53, hw53⟩ : ∃ W : World, W = w111 := ⟨_, rfl⟩
      rw [← hw53] at hX hG hB8 hb9 hb11 hb12 hT ⊢
      have hz53 := hT.top
      have hl11 := hb11.lt
      have hl12 := hb12.lt
      have hl9 := hb9.lt
      have hgl := hB8.lt
      have hzX12 := hX.size
      obtain ⟨tvs, hown, htl, hnoted⟩ := hT.tape.own
      obtain ⟨at', ct, rfl, hR, hRo⟩ := own_reads hown
      have htb := hT.tape.blk
      have hRn : ∀ q, at' = some q → q.block ∉ [b11, b12] := fun q hq hm => by
        have h := hT.ft q.block (by simp [foot, Value.ownBlock, hq])
        simp [Rg] at h hm
        omega
      have hcl : (Sp.climbN x i n p).length = p.length := climbN_full x _ p i n (Nat.le_refl _) (by rw [hcp])
      have htl2 : ([] ++ Sp.climbN x i n p).length = p.length := by simpa using hcl
      obtain ⟨iP, hiP⟩ : ∃ j, j = i := ⟨_, rfl⟩
      rw [← hiP] at hnoted htl2
      have htl3 : tvs.length = p.length := by rw [htl, ← hiP, htl2]
      refine hK24 _ _ ?_
      refine t_range (R1 := fun W => RI w53 W b11 b12 tvs p.length) rfl Tryd.func25 rfl (by kernel_rfl) ?_ ?_
      · intro W1 rc fn tmps hfit hrc hl1 hD1 Y1 s1
        refine (all_calls (l := w53.heap.size + 1) (fun i W => ObjAt W (w53.heap.size + 1) (.loop rc) ∧ RI w53 W b11 b12 tvs i) (fun _ => False) (by rw [hrc]; rfl) (fun i W h => ⟨h.1.at_, hR.keep h.2.chg hRn⟩) (htb.keep Y1 (by simp)) ⟨⟨hl1⟩, hb11.keep Y1 (by simp), hb12.keep Y1 (by simp), ⟨hD1⟩, Y1.mono (by simp)⟩ ?_).mono ?_
        · rintro i u W hu ⟨hl, C⟩
          subst hrc
          have hip : i < p.length := by have := (List.getElem?_eq_some_iff.1 hu).1; omega
          obtain ⟨z, hz⟩ : ∃ z, ([] ++ Sp.climbN x iP n p)[i]? = some z := ⟨_, List.getElem?_eq_getElem (by rw [htl2]; exact hip)⟩
          obtain ⟨_, au, cu, rfl, _⟩ := hnoted i u z hu hz
          refine rnd_of (n := 99) (ρ := [(12, .pointer (some ⟨b12, 0, none⟩)), (11, .pointer (some ⟨b11, 0, none⟩))]) hl.at_ rfl rfl (hfit.sub ⟨rfl, rfl, trivial⟩) rfl ?_
          refine r_reg rfl ?_
          refine s_val rfl rfl (runs_assign rfl) ?_
          refine s_nil ⟨rfl, fun Wb hlb XW => ?_⟩
          have h11 := C.v11.keep XW (by simp; omega)
          have h12 := C.v12.keep XW (by simp; omega)
          have hdf := C.df.keep XW (by simp)
          have hL : ObjAt Wb (w53.heap.size + 1) _ := ⟨hlb⟩
          have hXr : Chg w53 Wb [b11, b12] := (C.chg.trans XW).mono (by intro k hk hlt; simp at hk ⊢; omega)
          have hlL := hL.lt
          have hzr := hXr.size
          refine r_block ?_
          refine r_seqreg rfl (fun K1 hK1 => ?_)
          refine s_val rfl rfl (runs_move rfl) ?_
          refine s_store1 ty32 rfl rfl rfl h11 (by rfl) (by simp) ?_
          intro wr1 z14_1 h14_1 X14_1
          replace h12 := h12.keep X14_1 (by simp; omega)
          replace hdf := hdf.keep X14_1 (by simp; omega)
          replace hL := hL.keep X14_1 (by simp; omega)
          replace hXr : Chg w53 _ [b11, b12] := (hXr.trans X14_1).mono (by intro k hk hlt; simp at hk ⊢ <;> first | omega | grind)
          replace h11 := h14_1
          refine s_nil ?_
          refine hK1 _ _ ?_
          refine r_reg rfl ?_
          refine s_val rfl rfl (runs_load1 ty3 rfl (h12.c1 (j := 0) rfl)) ?_
          refine s_val rfl rfl (runs_add64 rfl rfl (by omega)) ?_
          refine s_store1 ty3 rfl rfl rfl h12 (by rfl) (by simp) ?_
          intro wr2 z15_2 h15_2 X15_2
          replace h11 := h11.keep X15_2 (by simp; omega)
          replace hdf := hdf.keep X15_2 (by simp; omega)
          replace hL := hL.keep X15_2 (by simp; omega)
          replace hXr : Chg w53 _ [b11, b12] := (hXr.trans X15_2).mono (by intro k hk hlt; simp at hk ⊢ <;> first | omega | grind)
          replace h12 := h15_2
          refine s_nil ?_
          exact ⟨hL.at_, fun W' hl' X' => ⟨fun _ => ⟨⟨hl'⟩, ⟨by
            have := h11.keep X' (by simp; omega)
            rw [if_neg (by omega), show i + 1 - 1 = i by omega, List.getD_eq_getElem?_getD, hu]
            exact this, h12.keep X' (by simp; omega), hdf.keep X' (by simp), (hXr.trans X').mono (by intro k hk hlt; simp at hk ⊢; omega)⟩⟩, fun h => by cases h⟩⟩
        · rintro _ W2 (⟨h1, h2⟩ | h)
          · exact ⟨h1.at_, by rw [← hiP, htl2] at h2; exact h2⟩
          · exact h.elim
      intro W2 w' C Z
      have hv11 := C.v11.keep Z (by simp; omega)
      have hv12 := C.v12.keep Z (by simp; omega)
      have hdf := C.df.keep Z (by simp)
      have hXr : Chg w53 w' [b11, b12] := (C.chg.trans Z).mono (by intro k hk hlt; simp at hk ⊢; omega)
      have hzr := hXr.size
      replace hX : Chg w w' [] := (hX.trans hXr).mono (by intro k hk hlt; simp at hk; omega)
      replace hG := hG.keep hXr (by simp; omega)
      replace hB8 := hB8.keep hXr (by simp; omega)
      replace hb9 := hb9.keep hXr (by simp; omega)
      rcases Decidable.em (p.length = 0) with hp0 | hp0
      · refine c_seqdraw [] ([]) (by kernel_rfl) ?_
        intro K25 hK25 wd16 Xd16 hS16
        replace hG := hG.keep Xd16 (by simp)
        replace hX : Chg w _ [] := (hX.trans Xd16).mono (by intro k hk hlt; simp at hk ⊢ <;> first | omega | grind)
        replace hB8 := hB8.keep Xd16 (by simp)
        replace hb9 := hb9.keep Xd16 (by simp)
        replace hv11 := hv11.keep Xd16 (by simp)
        replace hv12 := hv12.keep Xd16 (by simp)
        replace hdf := hdf.keep Xd16 (by simp)
        have zd16 := Xd16.size
        have hrx : Sp.root hs = x := by
          have hpn : p = [] := List.eq_nil_of_length_eq_zero hp0
          rw [hpn] at hcp
          by_cases h1 : n ≤ 1
          · rw [Sp.climb_one _ _ _ _ h1] at hcp; exact (Prod.mk.inj hcp).1.symm
          · rw [Sp.climb_nil _ _ _ (by omega)] at hcp; exact absurd (Prod.mk.inj hcp).2 (by decide)
        refine d_take 0 58 rfl (by kernel_rfl) rfl hS16 (fun wS hS => runs_move rfl) ?_
        refine d_take 1 59 rfl (by kernel_rfl) rfl hS16 (fun wS hS => runs_move rfl) ?_
        refine d_take 2 60 rfl (by kernel_rfl) rfl hS16 (fun wS hS => runs_load1 ty3 rfl ((hv12.keep hS (by simp)).c1 (j := 0) rfl)) ?_
        refine d_take 3 61 rfl (by kernel_rfl) rfl hS16 (fun wS hS => runs_move rfl) ?_
        refine d_take 4 62 rfl (by kernel_rfl) rfl hS16 (fun wS hS => runs_len_slice Tryd.underlying25 rfl) ?_
        refine d_take 5 63 rfl (by kernel_rfl) rfl hS16 (fun wS hS => runs_dt (runs_eqd rfl rfl) rfl) ?_
        refine d_take 6 64 rfl (by kernel_rfl) rfl hS16 (fun wS hS => runs_pickt rfl rfl) ?_
        refine d_take 7 65 rfl (by kernel_rfl) rfl hS16 (fun wS hS => runs_move rfl) ?_
        refine d_take 8 66 rfl (by kernel_rfl) rfl hS16 (fun wS hS => runs_load1 ty3 rfl ((hv12.keep hS (by simp)).c1 (j := 0) rfl)) ?_
        refine d_take 9 67 rfl (by kernel_rfl) rfl hS16 (fun wS hS => runs_dt (runs_eqd rfl rfl) (by omega)) ?_
        refine d_take 10 68 rfl (by kernel_rfl) rfl hS16 (fun wS hS => runs_move rfl) ?_
        refine d_take 11 69 rfl (by kernel_rfl) rfl hS16 (fun wS hS => runs_loadAgg ty28 rfl ((hb9.keep hS (by simp)).at) (by rw [natsC_length, hro'.1])) ?_
        refine d_take 12 70 rfl (by kernel_rfl) rfl hS16 (fun wS hS => runs_move rfl) ?_
        refine d_take 13 71 rfl (by kernel_rfl) rfl hS16 (fun wS hS => runs_move rfl) ?_
        refine d_take 14 72 rfl (by kernel_rfl) rfl hS16 (fun wS hS => runs_index_slice (i) Tryd.underlying25 ty28 rfl rfl (by omega) (by omega)) ?_
        refine d_take 15 73 rfl (by kernel_rfl) rfl hS16 (fun wS hS => runs_loadAgg ty28 rfl ((hB8.keep hS (by simp)).rd.elem hx) (by rw [natsC_length, okx.1])) ?_
        refine d_take 16 74 rfl (by kernel_rfl) rfl hS16 (fun wS hS => runs_dt (runs_hv_eq rfl rfl hro' okx) hrx) ?_
        refine d_take 17 75 rfl (by kernel_rfl) rfl hS16 (fun wS hS => runs_pickt rfl rfl) ?_
        refine d_take 18 76 rfl (by kernel_rfl) rfl hS16 (fun wS hS => runs_move rfl) ?_
        refine d_takeskip 19 77 rfl (by kernel_rfl) rfl hS16 ?_
        refine d_takeskip 20 78 rfl (by kernel_rfl) rfl hS16 ?_
        refine d_takeskip 21 79 rfl (by kernel_rfl) rfl hS16 ?_
        refine d_takeskip 22 80 rfl (by kernel_rfl) rfl hS16 ?_
        refine d_takeskip 23 81 rfl (by kernel_rfl) rfl hS16 ?_
        refine d_takeskip 24 82 rfl (by kernel_rfl) rfl hS16 ?_
        refine d_takeskip 25 83 rfl (by kernel_rfl) rfl hS16 ?_
        refine d_takeskip 26 84 rfl (by kernel_rfl) rfl hS16 ?_
        refine d_takeskip 27 85 rfl (by kernel_rfl) rfl hS16 ?_
        refine d_takeskip 28 86 rfl (by kernel_rfl) rfl hS16 ?_
        refine d_takeskip 29 87 rfl (by kernel_rfl) rfl hS16 ?_
        refine d_takeskip 30 88 rfl (by kernel_rfl) rfl hS16 ?_
        refine d_takeskip 31 89 rfl (by kernel_rfl) rfl hS16 ?_
        refine d_takeskip 32 90 rfl (by kernel_rfl) rfl hS16 ?_
        refine d_takeskip 33 91 rfl (by kernel_rfl) rfl hS16 ?_
        refine d_takeskip 34 92 rfl (by kernel_rfl) rfl hS16 ?_
        refine d_takeskip 35 93 rfl (by kernel_rfl) rfl hS16 ?_
        refine d_takeskip 36 94 rfl (by kernel_rfl) rfl hS16 ?_
        refine d_takeskip 37 95 rfl (by kernel_rfl) rfl hS16 ?_
        refine d_takeskip 38 96 rfl (by kernel_rfl) rfl hS16 ?_
        refine d_take 39 97 rfl (by kernel_rfl) rfl hS16 (fun wS hS => runs_pickt rfl rfl) ?_
        refine d_take 40 98 rfl (by kernel_rfl) rfl hS16 (fun wS hS => runs_pickt rfl rfl) ?_
        refine d_take 41 4 rfl (by kernel_rfl) rfl hS16 (fun wS hS => runs_assign rfl) ?_
        refine d_done (by kernel_rfl) ?_
        replace hG := hG.keep hS16 (by simp)
        replace hX : Chg w _ [] := (hX.trans hS16).mono (by intro k hk hlt; simp at hk ⊢ <;> first | omega | grind)
        replace hB8 := hB8.keep hS16 (by simp)
        replace hb9 := hb9.keep hS16 (by simp)
        replace hv11 := hv11.keep hS16 (by simp)
        replace hv12 := hv12.keep hS16 (by simp)
        replace hdf := hdf.keep hS16 (by simp)
        refine hK25 _ _ ?_
        refine c_ret ?_
        dsimp only [endM]
        refine ⟨hdf.at_, fun w'' Z2 => ends1 (reads_tmp rfl) ⟨rfl, (hX.trans Z2).mono (by intro k hk hlt; simp at hk; omega)⟩⟩
      · refine c_seqdraw [] ([]) (by kernel_rfl) ?_
        intro K25 hK25 wd16 Xd16 hS16
        replace hG := hG.keep Xd16 (by simp)
        replace hX : Chg w _ [] := (hX.trans Xd16).mono (by intro k hk hlt; simp at hk ⊢ <;> first | omega | grind)
        replace hB8 := hB8.keep Xd16 (by simp)
        replace hb9 := hb9.keep Xd16 (by simp)
        replace hv11 := hv11.keep Xd16 (by simp)
        replace hv12 := hv12.keep Xd16 (by simp)
        replace hdf := hdf.keep Xd16 (by simp)
        have zd16 := Xd16.size
        obtain ⟨z, hz1, hz2, hz3, hz4, hz5⟩ := climbN_last x okx p okp i n (by omega) (by rw [hcp])
        rw [hcp] at hz2
        simp only at hz2
        have hz6 : ([] ++ Sp.climbN x iP n p)[p.length - 1]? = some z := by rw [hiP]; simpa using hz1
        obtain ⟨u, hu⟩ : ∃ u, tvs[p.length - 1]? = some u := ⟨_, List.getElem?_eq_getElem (by omega)⟩
        obtain ⟨_, au, cu, rfl, hbu, hbun⟩ := hnoted (p.length - 1) u z hu hz6
        replace hbu := (hbu.keep hXr (fun q hq hm => by
          have h := (hbun q hq).2.2
          simp [Rg] at h hm
          omega)).grow Xd16
        rw [if_neg hp0, List.getD_eq_getElem?_getD, hu] at hv11
        obtain ⟨bu, ou, rfl⟩ := hbu.some_ (by omega)
        refine d_take 0 58 rfl (by kernel_rfl) rfl hS16 (fun wS hS => runs_move rfl) ?_
        refine d_take 1 59 rfl (by kernel_rfl) rfl hS16 (fun wS hS => runs_move rfl) ?_
        refine d_take 2 60 rfl (by kernel_rfl) rfl hS16 (fun wS hS => runs_load1 ty3 rfl ((hv12.keep hS (by simp)).c1 (j := 0) rfl)) ?_
        refine d_take 3 61 rfl (by kernel_rfl) rfl hS16 (fun wS hS => runs_move rfl) ?_
        refine d_take 4 62 rfl (by kernel_rfl) rfl hS16 (fun wS hS => runs_len_slice Tryd.underlying25 rfl) ?_
        refine d_take 5 63 rfl (by kernel_rfl) rfl hS16 (fun wS hS => runs_dt (runs_eqd rfl rfl) rfl) ?_
        refine d_take 6 64 rfl (by kernel_rfl) rfl hS16 (fun wS hS => runs_pickt rfl rfl) ?_
        refine d_take 7 65 rfl (by kernel_rfl) rfl hS16 (fun wS hS => runs_move rfl) ?_
        refine d_take 8 66 rfl (by kernel_rfl) rfl hS16 (fun wS hS => runs_load1 ty3 rfl ((hv12.keep hS (by simp)).c1 (j := 0) rfl)) ?_
        refine d_take 9 67 rfl (by kernel_rfl) rfl hS16 (fun wS hS => runs_df (runs_eqd rfl rfl) (by omega)) ?_
        refine d_take 10 68 rfl (by kernel_rfl) rfl hS16 (fun wS hS => runs_move rfl) ?_
        refine d_takeskip 11 69 rfl (by kernel_rfl) rfl hS16 ?_
        refine d_takeskip 12 70 rfl (by kernel_rfl) rfl hS16 ?_
        refine d_takeskip 13 71 rfl (by kernel_rfl) rfl hS16 ?_
        refine d_takeskip 14 72 rfl (by kernel_rfl) rfl hS16 ?_
        refine d_takeskip 15 73 rfl (by kernel_rfl) rfl hS16 ?_
        refine d_takeskip 16 74 rfl (by kernel_rfl) rfl hS16 ?_
        refine d_take 17 75 rfl (by kernel_rfl) rfl hS16 (fun wS hS => runs_pickf rfl rfl) ?_
        refine d_take 18 76 rfl (by kernel_rfl) rfl hS16 (fun wS hS => runs_move rfl) ?_
        refine d_take 19 77 rfl (by kernel_rfl) rfl hS16 (fun wS hS => runs_load1 ty3 rfl ((hv12.keep hS (by simp)).c1 (j := 0) rfl)) ?_
        refine d_take 20 78 rfl (by kernel_rfl) rfl hS16 (fun wS hS => runs_dt (runs_gt rfl rfl) (by omega)) ?_
        refine d_take 21 79 rfl (by kernel_rfl) rfl hS16 (fun wS hS => runs_move rfl) ?_
        refine d_take 22 80 rfl (by kernel_rfl) rfl hS16 (fun wS hS => runs_load1 ty32 rfl ((hv11.keep hS (by simp)).c1 (j := 0) rfl)) ?_
        refine d_take 25 83 rfl (by kernel_rfl) rfl hS16 (fun wS hS => runs_loadAgg ty28 rfl ((hb9.keep hS (by simp)).at) (by rw [natsC_length, hro'.1])) ?_
        refine d_only 23 rfl (by kernel_rfl) ?_
        refine s_lit (xs := [.tmp 80]) Tryd.underlying22 ty32 rfl rfl rfl rfl rfl (by simp [Value.cells]) (by decide) (by decide) ?_
        intro b23 w23 e16_23 z16_23 hb23 X16_23
        replace hS16 : Chg wd16 _ [] := hS16.trans X16_23
        refine s_nil ⟨.inr hS16, ?_⟩
        refine d_only 24 rfl (by kernel_rfl) ?_
        refine s_callf (xs := [.const (.pointer none), .tmp 81]) rfl rfl Tryd.func17 rfl (by kernel_rfl) rfl (of0 (hG.keep hS16 (by simp)) (by have := hS16.size; omega) (parts_one hb23 (hbu.keep hS16 (by simp)) hz5) (by simp; omega)) ?_
        rintro _ w24 ⟨rfl, X16_24⟩
        have zs16_24 := X16_24.size
        rw [show [z].flatten = z by simp, hz2]
        replace hS16 : Chg wd16 _ [] := hS16.trans X16_24
        refine s_nil ⟨.inr hS16, ?_⟩
        refine d_take 26 84 rfl (by kernel_rfl) rfl hS16 (fun wS hS => runs_dt (runs_hv_eq rfl rfl hro' hro') rfl) ?_
        refine d_take 27 85 rfl (by kernel_rfl) rfl hS16 (fun wS hS => runs_pickt rfl rfl) ?_
        refine d_take 28 86 rfl (by kernel_rfl) rfl hS16 (fun wS hS => runs_move rfl) ?_
        refine d_take 29 87 rfl (by kernel_rfl) rfl hS16 (fun wS hS => runs_load1 ty32 rfl ((hv11.keep hS (by simp)).c1 (j := 0) rfl)) ?_
        refine d_take 30 88 rfl (by kernel_rfl) rfl hS16 (fun wS hS => runs_len_slice Tryd.underlying32 rfl) ?_
        refine d_take 31 89 rfl (by kernel_rfl) rfl hS16 (fun wS hS => runs_dt (runs_eqd rfl rfl) (by omega)) ?_
        refine d_take 32 90 rfl (by kernel_rfl) rfl hS16 (fun wS hS => runs_pickt rfl rfl) ?_
        refine d_take 33 91 rfl (by kernel_rfl) rfl hS16 (fun wS hS => runs_move rfl) ?_
        refine d_take 34 92 rfl (by kernel_rfl) rfl hS16 (fun wS hS => runs_load1 ty32 rfl ((hv11.keep hS (by simp)).c1 (j := 0) rfl)) ?_
        refine d_take 35 93 rfl (by kernel_rfl) rfl hS16 (fun wS hS => runs_index_slice (0) Tryd.underlying32 ty5 rfl rfl (by omega) (by omega)) ?_
        refine d_take 36 94 rfl (by kernel_rfl) rfl hS16 (fun wS hS => runs_load1 ty5 rfl ((hbu.keep hS (by simp)).elem1 (natsC_get hz4))) ?_
        refine d_take 37 95 rfl (by kernel_rfl) rfl hS16 (fun wS hS => runs_dt (runs_eqd rfl rfl) rfl) ?_
        refine d_take 38 96 rfl (by kernel_rfl) rfl hS16 (fun wS hS => runs_pickt rfl rfl) ?_
        refine d_take 39 97 rfl (by kernel_rfl) rfl hS16 (fun wS hS => runs_pickf rfl rfl) ?_
        refine d_take 40 98 rfl (by kernel_rfl) rfl hS16 (fun wS hS => runs_pickt rfl rfl) ?_
        refine d_take 41 4 rfl (by kernel_rfl) rfl hS16 (fun wS hS => runs_assign rfl) ?_
        refine d_done (by kernel_rfl) ?_
        replace hG := hG.keep hS16 (by simp)
        replace hX : Chg w _ [] := (hX.trans hS16).mono (by intro k hk hlt; simp at hk ⊢ <;> first | omega | grind)
        replace hB8 := hB8.keep hS16 (by simp)
        replace hb9 := hb9.keep hS16 (by simp)
        replace hv11 := hv11.keep hS16 (by simp)
        replace hv12 := hv12.keep hS16 (by simp)
        replace hdf := hdf.keep hS16 (by simp)
        refine hK25 _ _ ?_
        refine c_ret ?_
        dsimp only [endM]
        refine ⟨hdf.at_, fun w'' Z2 => ends1 (reads_tmp rfl) ⟨rfl, (hX.trans Z2).mono (by intro k hk hlt; simp at hk; omega)⟩⟩
end Go.Proofs.YtecpedpfkdnfhaaDoor
