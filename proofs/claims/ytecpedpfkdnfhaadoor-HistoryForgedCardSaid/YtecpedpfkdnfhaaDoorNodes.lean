/- The law HistoryNodes returns true, whatever it is given, once the listed variables are laid. Conditions: none beyond those in the theorems. By an AI agent. -/
import Derived.Test.YtecpedpfkdnfhaaDoorFit
namespace Go.Proofs.YtecpedpfkdnfhaaDoor
open Go Go.RowKit

def land64 (a : Int) (m : Nat) : Nat := (BitVec.ofInt 64 a &&& BitVec.ofInt 64 (m : Int)).toNat
theorem land64_le {a : Int} {m : Nat} (h : m < 9223372036854775808) : land64 a m ≤ m := by
  unfold land64
  rw [BitVec.toNat_and]
  refine Nat.le_trans Nat.and_le_right ?_
  rw [BitVec.toNat_ofInt]; omega
theorem runs_and64 {P : Program} {ρ : Env} {w : World} {x : Operand} {tx ty tyy : TypeId} {a : Int} (m : Nat) (hx : ev? ρ x = some (.int .i64 a)) (hm : m < 9223372036854775808) :
    Runs P ρ (.binOp .and tx x (.const (.int .i64 (m : Int))) tyy) ty w (.int .i64 (land64 a m : Nat)) w :=
  runs_as (runs_and hx rfl) (by
    have := land64_le (a := a) hm
    show Value.int .i64 (IntKind.i64.wrap ((land64 a m : Nat) : Int)) = _
    rw [wrap_i64 (by omega) (by omega)])
theorem runs_shl1 {P : Program} {ρ : Env} {w : World} {x y : Operand} {tx ty tyy : TypeId} {j : Nat} (hx : ev? ρ x = some (.int .i64 1)) (hy : ev? ρ y = some (.int .i64 (j : Int))) (hj : j ≤ 40) :
    Runs P ρ (.binOp .shl tx x y tyy) ty w (.int .i64 ((2 ^ j : Nat) : Int)) w :=
  runs_as (runs_shl hx hy (by omega)) (by
    have h1 : (2 : Nat) ^ j ≤ 2 ^ 40 := Nat.pow_le_pow_right (by decide) hj
    have h2 : (2 : Nat) ^ 40 = 1099511627776 := by decide
    show Value.int .i64 (IntKind.i64.wrap (1 * 2 ^ (min (j : Int).toNat 64))) = _
    rw [show min (j : Int).toNat 64 = j by omega, Int.one_mul, wrap_i64]
    · simp
    · have : (0 : Int) ≤ 2 ^ j := Int.pow_nonneg (by decide)
      omega
    · have : ((2 : Int) ^ j) = ((2 ^ j : Nat) : Int) := by simp
      omega)
theorem pow_uniq {i j n : Nat} (h1 : 2 ^ i < n) (h2 : n ≤ 2 * 2 ^ i) (h3 : 2 ^ j < n) (h4 : n ≤ 2 * 2 ^ j) : i = j := by
  rcases Nat.lt_trichotomy i j with h | h | h
  · have : 2 ^ (i + 1) ≤ 2 ^ j := Nat.pow_le_pow_right (by decide) h
    rw [Nat.pow_succ] at this; omega
  · exact h
  · have : 2 ^ (j + 1) ≤ 2 ^ i := Nat.pow_le_pow_right (by decide) h
    rw [Nat.pow_succ] at this; omega
theorem split_is {n j : Nat} (h1 : 2 ^ j < n) (h2 : n ≤ 2 * 2 ^ j) : Sp.split n = 2 ^ j := by
  obtain ⟨i, hi⟩ := Sp.split_pow n
  have h3 := Sp.split_lt (n := n) (by have : 0 < 2 ^ j := Nat.pow_pos (by decide); omega)
  have h4 := Sp.split_ge n
  rw [hi] at h3 h4 ⊢
  rw [pow_uniq h1 h2 h3 h4]

set_option maxHeartbeats 2000000 in
theorem nodes_calls (B : Nat) (bss : List (List Nat)) (a : Option Addr) (n c : Nat) (k : Int) (w : World) (hG0 : GH B w) (hBw : B ≤ w.heap.size) (hP : Parts w a n c bss) :
    CallsR Tryd.prog 3 #[.slice a n c, .int .i64 k] w fun v w' => v = .bool true ∧ Chg w w' [] := by
  have hlen := hP.length
  have hX : Chg w w [] := Chg.refl _ _
  have hG := hG0
  have hq32 : 2 ^ land64 k 5 ≤ 32 := Nat.pow_le_pow_right (by decide) (land64_le (a := k) (m := 5) (by decide))
  obtain ⟨q, hq⟩ : ∃ q, q = 2 ^ land64 k 5 := ⟨_, rfl⟩
  rw [← hq] at hq32
  refine f_enter (l := [.slice a n c, .int .i64 k]) Tryd.func3 rfl rfl rfl rfl ?_
  cases hL : Sp.light bss with
  | false =>
    intro Qf hnrm hret
    refine c_seqreg (fun K1 hK1 => ?_)
    refine s_val rfl rfl (runs_assign rfl) ?_
    refine s_nil ?_
    refine hK1 _ _ ?_
    refine c_seq (fun K2 hK2 => ?_)
    refine c_seqreg (fun K3 hK3 => ?_)
    refine s_callf (xs := []) rfl rfl Tryd.func12 rfl (by kernel_rfl) rfl (fit_calls B _ hG (by omega)) ?_
    rintro _ w1 ⟨rfl, X1_0⟩
    replace hG := hG.keep X1_0 (by simp)
    replace hX : Chg w _ [] := (hX.trans X1_0).mono (by intro k hk hlt; simp at hk ⊢ <;> first | omega | grind)
    have zs1_0 := X1_0.size
    have hz1 := X1_0.size
    refine s_val rfl rfl (runs_not rfl) ?_
    refine s_nil ?_
    refine hK3 _ _ ?_
    refine c_false rfl ?_
    refine c_skip ?_
    refine hK2 _ _ ?_
    refine c_seq (fun K5 hK5 => ?_)
    refine c_seqreg (fun K6 hK6 => ?_)
    refine s_val rfl rfl (runs_move rfl) ?_
    refine s_callf (xs := [.tmp 10]) rfl rfl Tryd.func13 rfl (by kernel_rfl) rfl (light_calls bss _ _ _ _ (hP.grow hX)) ?_
    rintro _ w3 ⟨rfl, X3_1⟩
    replace hG := hG.keep X3_1 (by simp)
    replace hX : Chg w _ [] := (hX.trans X3_1).mono (by intro k hk hlt; simp at hk ⊢ <;> first | omega | grind)
    have zs3_1 := X3_1.size
    have hz3 := X3_1.size
    rw [hL]
    refine s_val rfl rfl (runs_not rfl) ?_
    refine s_val rfl rfl (runs_move rfl) ?_
    refine s_skip rfl rfl ?_
    refine s_skip rfl rfl ?_
    refine s_skip rfl rfl ?_
    refine s_val rfl rfl (runs_pickt rfl rfl) ?_
    refine s_nil ?_
    refine hK6 _ _ ?_
    refine c_true rfl ?_
    refine c_seqreg (fun K8 hK8 => ?_)
    refine s_val rfl rfl (runs_assign rfl) ?_
    refine s_nil ?_
    refine hK8 _ _ ?_
    refine c_ret ?_
    refine hret _ _ ?_
    exact ends1 (reads_tmp rfl) ⟨rfl, hX⟩
  | true =>
    have hl1 := Sp.light_len hL
    have hl2 := Sp.light_each hL
    by_cases hqn : n ≤ q
    · skip
      intro Qf hnrm hret
      refine c_seqreg (fun K1 hK1 => ?_)
      refine s_val rfl rfl (runs_assign rfl) ?_
      refine s_nil ?_
      refine hK1 _ _ ?_
      refine c_seq (fun K2 hK2 => ?_)
      refine c_seqreg (fun K3 hK3 => ?_)
      refine s_callf (xs := []) rfl rfl Tryd.func12 rfl (by kernel_rfl) rfl (fit_calls B _ hG (by omega)) ?_
      rintro _ w1 ⟨rfl, X1_0⟩
      replace hG := hG.keep X1_0 (by simp)
      replace hX : Chg w _ [] := (hX.trans X1_0).mono (by intro k hk hlt; simp at hk ⊢ <;> first | omega | grind)
      have zs1_0 := X1_0.size
      have hz1 := X1_0.size
      refine s_val rfl rfl (runs_not rfl) ?_
      refine s_nil ?_
      refine hK3 _ _ ?_
      refine c_false rfl ?_
      refine c_skip ?_
      refine hK2 _ _ ?_
      refine c_seq (fun K5 hK5 => ?_)
      refine c_seqreg (fun K6 hK6 => ?_)
      refine s_val rfl rfl (runs_move rfl) ?_
      refine s_callf (xs := [.tmp 10]) rfl rfl Tryd.func13 rfl (by kernel_rfl) rfl (light_calls bss _ _ _ _ (hP.grow hX)) ?_
      rintro _ w3 ⟨rfl, X3_1⟩
      replace hG := hG.keep X3_1 (by simp)
      replace hX : Chg w _ [] := (hX.trans X3_1).mono (by intro k hk hlt; simp at hk ⊢ <;> first | omega | grind)
      have zs3_1 := X3_1.size
      have hz3 := X3_1.size
      rw [hL]
      refine s_val rfl rfl (runs_not rfl) ?_
      refine s_val rfl rfl (runs_move rfl) ?_
      refine s_val rfl rfl (runs_move rfl) ?_
      refine s_val rfl rfl (runs_len_slice Tryd.underlying22 rfl) ?_
      refine s_val rfl rfl (runs_eqd rfl rfl) ?_
      refine s_val rfl rfl (runs_pickf rfl rfl) ?_
      refine s_nil ?_
      refine hK6 _ _ ?_
      refine c_dec rfl (fun h0 => ?_) (fun h0 => ?_)
      · refine c_seqreg (fun K8 hK8 => ?_)
        refine s_val rfl rfl (runs_assign rfl) ?_
        refine s_nil ?_
        refine hK8 _ _ ?_
        refine c_ret ?_
        refine hret _ _ ?_
        exact ends1 (reads_tmp rfl) ⟨rfl, hX⟩
      · have hn0 : 0 < n := by omega
        obtain ⟨vs, hvs, hho⟩ := hP.rd
        obtain ⟨ba, oa, rfl⟩ := hvs.some_ hn0
        obtain ⟨b0, hb0⟩ : ∃ bs, bss[0]? = some bs := ⟨_, List.getElem?_eq_getElem (by omega)⟩
        obtain ⟨v0, hv0⟩ : ∃ v, vs[0]? = some v := ⟨_, List.getElem?_eq_getElem (by rw [hho.1]; omega)⟩
        obtain ⟨⟨a', c', rfl, hrb⟩, hbl⟩ := hho.2 0 v0 b0 hv0 hb0
        have hb100 := hl2 b0 (List.mem_of_getElem? hb0)
        refine c_skip ?_
        refine hK5 _ _ ?_
        refine c_seqreg (fun K9 hK9 => ?_)
        refine s_val rfl rfl (runs_move rfl) ?_
        refine s_callf (xs := [.tmp 18]) rfl rfl Tryd.func14 rfl (by kernel_rfl) rfl (leaves_calls B bss _ _ _ _ hG (by omega) (hP.grow hX) hL) ?_
        rintro vh w5 ⟨hown, X5_1⟩
        replace hG := hG.keep X5_1 (by simp)
        replace hX : Chg w _ [] := (hX.trans X5_1).mono (by intro k hk hlt; simp at hk ⊢ <;> first | omega | grind)
        have zs5_1 := X5_1.size
        have hz5 := X5_1.size
        obtain ⟨hs, hhs⟩ : ∃ hs, hs = bss.map Sp.leaf := ⟨_, rfl⟩
        rw [← hhs] at hown
        obtain ⟨ah, ch, rfl, hH, _⟩ := own_hs hown (by rw [hhs]; simpa using fun x _ => leaf_ok x) (by rw [hhs, List.length_map, hlen])
        obtain ⟨bh, oh, rfl⟩ := hH.rd.some_ hn0
        have hlt : bh < w5.heap.size := hH.lt hn0 _ rfl
        have hsl : hs.length = n := hH.len
        have hcn := hH.rd.le
        refine s_val rfl rfl (runs_assign rfl) ?_
        refine s_nil ?_
        refine hK9 _ _ ?_
        refine c_seqreg (fun K11 hK11 => ?_)
        refine s_val rfl rfl (runs_move rfl) ?_
        refine s_val rfl rfl (runs_and64 5 rfl (by decide)) ?_
        refine s_val rfl rfl (runs_shl1 rfl rfl (by have := land64_le (a := k) (m := 5) (by decide); omega)) ?_
        refine s_val rfl rfl (runs_assign rfl) ?_
        refine s_nil ?_
        rw [← hq]
        refine hK11 _ _ ?_
        refine c_seq (fun K12 hK12 => ?_)
        refine c_seqreg (fun K13 hK13 => ?_)
        refine s_val rfl rfl (runs_move rfl) ?_
        refine s_val rfl rfl (runs_move rfl) ?_
        refine s_val rfl rfl (runs_len_slice Tryd.underlying25 rfl) ?_
        refine s_val rfl rfl (runs_dt (runs_ge rfl rfl) (by omega)) ?_
        refine s_val rfl rfl (runs_move rfl) ?_
        refine s_skip rfl rfl ?_
        refine s_skip rfl rfl ?_
        refine s_skip rfl rfl ?_
        refine s_skip rfl rfl ?_
        refine s_skip rfl rfl ?_
        refine s_val rfl rfl (runs_pickt rfl rfl) ?_
        refine s_nil ?_
        refine hK13 _ _ ?_
        refine c_true rfl ?_
        refine c_seqreg (fun K14 hK14 => ?_)
        refine s_val rfl rfl (runs_assign rfl) ?_
        refine s_nil ?_
        refine hK14 _ _ ?_
        refine c_ret ?_
        refine hret _ _ ?_
        exact ends1 (reads_tmp rfl) ⟨rfl, hX⟩
    · skip
      intro Qf hnrm hret
      refine c_seqreg (fun K1 hK1 => ?_)
      refine s_val rfl rfl (runs_assign rfl) ?_
      refine s_nil ?_
      refine hK1 _ _ ?_
      refine c_seq (fun K2 hK2 => ?_)
      refine c_seqreg (fun K3 hK3 => ?_)
      refine s_callf (xs := []) rfl rfl Tryd.func12 rfl (by kernel_rfl) rfl (fit_calls B _ hG (by omega)) ?_
      rintro _ w1 ⟨rfl, X1_0⟩
      replace hG := hG.keep X1_0 (by simp)
      replace hX : Chg w _ [] := (hX.trans X1_0).mono (by intro k hk hlt; simp at hk ⊢ <;> first | omega | grind)
      have zs1_0 := X1_0.size
      have hz1 := X1_0.size
      refine s_val rfl rfl (runs_not rfl) ?_
      refine s_nil ?_
      refine hK3 _ _ ?_
      refine c_false rfl ?_
      refine c_skip ?_
      refine hK2 _ _ ?_
      refine c_seq (fun K5 hK5 => ?_)
      refine c_seqreg (fun K6 hK6 => ?_)
      refine s_val rfl rfl (runs_move rfl) ?_
      refine s_callf (xs := [.tmp 10]) rfl rfl Tryd.func13 rfl (by kernel_rfl) rfl (light_calls bss _ _ _ _ (hP.grow hX)) ?_
      rintro _ w3 ⟨rfl, X3_1⟩
      replace hG := hG.keep X3_1 (by simp)
      replace hX : Chg w _ [] := (hX.trans X3_1).mono (by intro k hk hlt; simp at hk ⊢ <;> first | omega | grind)
      have zs3_1 := X3_1.size
      have hz3 := X3_1.size
      rw [hL]
      refine s_val rfl rfl (runs_not rfl) ?_
      refine s_val rfl rfl (runs_move rfl) ?_
      refine s_val rfl rfl (runs_move rfl) ?_
      refine s_val rfl rfl (runs_len_slice Tryd.underlying22 rfl) ?_
      refine s_val rfl rfl (runs_eqd rfl rfl) ?_
      refine s_val rfl rfl (runs_pickf rfl rfl) ?_
      refine s_nil ?_
      refine hK6 _ _ ?_
      refine c_dec rfl (fun h0 => ?_) (fun h0 => ?_)
      · refine c_seqreg (fun K8 hK8 => ?_)
        refine s_val rfl rfl (runs_assign rfl) ?_
        refine s_nil ?_
        refine hK8 _ _ ?_
        refine c_ret ?_
        refine hret _ _ ?_
        exact ends1 (reads_tmp rfl) ⟨rfl, hX⟩
      · have hn0 : 0 < n := by omega
        obtain ⟨vs, hvs, hho⟩ := hP.rd
        obtain ⟨ba, oa, rfl⟩ := hvs.some_ hn0
        obtain ⟨b0, hb0⟩ : ∃ bs, bss[0]? = some bs := ⟨_, List.getElem?_eq_getElem (by omega)⟩
        obtain ⟨v0, hv0⟩ : ∃ v, vs[0]? = some v := ⟨_, List.getElem?_eq_getElem (by rw [hho.1]; omega)⟩
        obtain ⟨⟨a', c', rfl, hrb⟩, hbl⟩ := hho.2 0 v0 b0 hv0 hb0
        have hb100 := hl2 b0 (List.mem_of_getElem? hb0)
        refine c_skip ?_
        refine hK5 _ _ ?_
        refine c_seqreg (fun K9 hK9 => ?_)
        refine s_val rfl rfl (runs_move rfl) ?_
        refine s_callf (xs := [.tmp 18]) rfl rfl Tryd.func14 rfl (by kernel_rfl) rfl (leaves_calls B bss _ _ _ _ hG (by omega) (hP.grow hX) hL) ?_
        rintro vh w5 ⟨hown, X5_1⟩
        replace hG := hG.keep X5_1 (by simp)
        replace hX : Chg w _ [] := (hX.trans X5_1).mono (by intro k hk hlt; simp at hk ⊢ <;> first | omega | grind)
        have zs5_1 := X5_1.size
        have hz5 := X5_1.size
        obtain ⟨hs, hhs⟩ : ∃ hs, hs = bss.map Sp.leaf := ⟨_, rfl⟩
        rw [← hhs] at hown
        obtain ⟨ah, ch, rfl, hH, _⟩ := own_hs hown (by rw [hhs]; simpa using fun x _ => leaf_ok x) (by rw [hhs, List.length_map, hlen])
        obtain ⟨bh, oh, rfl⟩ := hH.rd.some_ hn0
        have hlt : bh < w5.heap.size := hH.lt hn0 _ rfl
        have hsl : hs.length = n := hH.len
        have hcn := hH.rd.le
        refine s_val rfl rfl (runs_assign rfl) ?_
        refine s_nil ?_
        refine hK9 _ _ ?_
        refine c_seqreg (fun K11 hK11 => ?_)
        refine s_val rfl rfl (runs_move rfl) ?_
        refine s_val rfl rfl (runs_and64 5 rfl (by decide)) ?_
        refine s_val rfl rfl (runs_shl1 rfl rfl (by have := land64_le (a := k) (m := 5) (by decide); omega)) ?_
        refine s_val rfl rfl (runs_assign rfl) ?_
        refine s_nil ?_
        rw [← hq]
        refine hK11 _ _ ?_
        refine c_seq (fun K12 hK12 => ?_)
        refine c_seqreg (fun K13 hK13 => ?_)
        refine s_val rfl rfl (runs_move rfl) ?_
        refine s_val rfl rfl (runs_move rfl) ?_
        refine s_val rfl rfl (runs_len_slice Tryd.underlying25 rfl) ?_
        refine s_val rfl rfl (runs_df (runs_ge rfl rfl) (by omega)) ?_
        refine s_val rfl rfl (runs_move rfl) ?_
        refine s_val rfl rfl (runs_move rfl) ?_
        refine s_val rfl rfl (runs_mul64 rfl rfl (by omega)) ?_
        refine s_val rfl rfl (runs_move rfl) ?_
        refine s_val rfl rfl (runs_len_slice Tryd.underlying25 rfl) ?_
        refine s_val rfl rfl (runs_lt rfl rfl) ?_
        refine s_val rfl rfl (runs_pickf rfl rfl) ?_
        refine s_nil ?_
        refine hK13 _ _ ?_
        refine c_dec rfl (fun h2q => ?_) (fun h2q => ?_)
        · refine c_seqreg (fun K14 hK14 => ?_)
          refine s_val rfl rfl (runs_assign rfl) ?_
          refine s_nil ?_
          refine hK14 _ _ ?_
          refine c_ret ?_
          refine hret _ _ ?_
          exact ends1 (reads_tmp rfl) ⟨rfl, hX⟩
        · have hsp : Sp.split n = q := by rw [hq]; exact split_is (by omega) (by omega)
          have hroot : Sp.root hs = Sp.node (Sp.root (hs.take q)) (Sp.root (hs.drop q)) := by rw [Sp.root_two hs (by omega), hsl, hsp]
          have o1 : HOk (Sp.root (hs.take q)) := root_ok _ _ (Nat.le_refl _) (fun x hx => hH.ok x (List.mem_of_mem_take hx))
          have o2 : HOk (Sp.root (hs.drop q)) := root_ok _ _ (Nat.le_refl _) (fun x hx => hH.ok x (List.mem_of_mem_drop hx))
          refine c_skip ?_
          refine hK12 _ _ ?_
          refine c_seqdraw [11] ([]) (by kernel_rfl) ?_
          intro K15 hK15 wd9 Xd9 hS9
          replace hG := hG.keep Xd9 (by simp)
          replace hX : Chg w _ [] := (hX.trans Xd9).mono (by intro k hk hlt; simp at hk ⊢ <;> first | omega | grind)
          replace hH := hH.keep0 Xd9
          have zd9 := Xd9.size
          have hzd9 := Xd9.size
          refine d_take 0 34 rfl (by kernel_rfl) rfl hS9 (fun wS hS => runs_move rfl) ?_
          refine d_take 1 35 rfl (by kernel_rfl) rfl hS9 (fun wS hS => runs_move rfl) ?_
          refine d_take 2 36 rfl (by kernel_rfl) rfl hS9 (fun wS hS => runs_slice_to (q) Tryd.underlying25 ty28 rfl rfl (by omega) (by omega)) ?_
          refine d_take 4 38 rfl (by kernel_rfl) rfl hS9 (fun wS hS => runs_move rfl) ?_
          refine d_take 5 39 rfl (by kernel_rfl) rfl hS9 (fun wS hS => runs_move rfl) ?_
          refine d_take 6 40 rfl (by kernel_rfl) rfl hS9 (fun wS hS => runs_slice_from (q) Tryd.underlying25 ty28 rfl rfl (by omega) (by omega)) ?_
          refine d_seg 2 [3, 7, 8, 9] [[], [3], [], []] [8, 9] [3, 7, 8, 9] (fun i => match i with | 3 => SA.eq (hv (Sp.root (hs.take q))) | 7 => SA.eq (hv (Sp.root (hs.drop q))) | 8 => SA.mem wd9.heap.size (List.replicate 32 (.int .u8 0)) 28 | 9 => SA.mem wd9.heap.size (List.replicate 32 (.int .u8 0)) 28 | _ => SA.any) #[true, true, true, true, true, true, true, true, true, true, false, false] (by kernel_rfl) (by kernel_rfl) (by decide) (by kernel_rfl) (fun _ X => hS9.trans X) ?_ ?_
          · refine obl_cons rfl ?_ ?_
            · intro wo Xo
              have Xo' : Chg wd9 wo [] := hS9.trans Xo
              have hSo := Xo'
              replace hG := hG.keep Xo' (by simp)
              replace hX : Chg w _ [] := (hX.trans Xo').mono (by intro k hk hlt; simp at hk ⊢ <;> first | omega | grind)
              replace hH := hH.keep0 Xo'
              refine wv_nil ?_
              refine s_callf (xs := [.const (.pointer none), .tmp 36]) rfl rfl Tryd.func15 rfl (by kernel_rfl) rfl (root0 hG (by have := Xo'.size; omega) (hH.to_ q (by omega)) (by omega)) ?_
              rintro _ wc ⟨rfl, X9_3⟩
              have zs9_3 := X9_3.size
              exact s_nil ⟨X9_3, fun d hd => by cases hd; exact ⟨_, rfl, rfl, fun h => absurd h (by decide)⟩⟩
            refine obl_cons rfl ?_ ?_
            · intro wo Xo
              have Xo' : Chg wd9 wo [] := hS9.trans Xo
              have hSo := Xo'
              replace hG := hG.keep Xo' (by simp)
              replace hX : Chg w _ [] := (hX.trans Xo').mono (by intro k hk hlt; simp at hk ⊢ <;> first | omega | grind)
              replace hH := hH.keep0 Xo'
              refine wv_cons rfl ?_
              rintro _ rfl
              refine wv_nil ?_
              refine s_callf (xs := [.const (.pointer none), .tmp 40]) rfl rfl Tryd.func15 rfl (by kernel_rfl) rfl (root0 hG (by have := Xo'.size; omega) (hH.from_ q (by omega)) (by omega)) ?_
              rintro _ wc ⟨rfl, X9_7⟩
              have zs9_7 := X9_7.size
              exact s_nil ⟨X9_7, fun d hd => by cases hd; exact ⟨_, rfl, rfl, fun h => absurd h (by decide)⟩⟩
            refine obl_cons rfl ?_ ?_
            · intro wo Xo
              have Xo' : Chg wd9 wo [] := hS9.trans Xo
              have hSo := Xo'
              replace hG := hG.keep Xo' (by simp)
              replace hX : Chg w _ [] := (hX.trans Xo').mono (by intro k hk hlt; simp at hk ⊢ <;> first | omega | grind)
              replace hH := hH.keep0 Xo'
              refine wv_nil ?_
              refine s_alloc ty28 rfl rfl ?_
              intro b9_8 w9_8 e9_8 z9_8 hb9_8 X9_8
              exact s_nil ⟨X9_8, fun d hd => by cases hd; exact ⟨_, rfl, ⟨_, rfl, by have := hSo.size; omega, hb9_8⟩, fun _ b hb => by simp [blkOf] at hb; omega⟩⟩
            refine obl_cons rfl ?_ ?_
            · intro wo Xo
              have Xo' : Chg wd9 wo [] := hS9.trans Xo
              have hSo := Xo'
              replace hG := hG.keep Xo' (by simp)
              replace hX : Chg w _ [] := (hX.trans Xo').mono (by intro k hk hlt; simp at hk ⊢ <;> first | omega | grind)
              replace hH := hH.keep0 Xo'
              refine wv_nil ?_
              refine s_alloc ty28 rfl rfl ?_
              intro b9_9 w9_9 e9_9 z9_9 hb9_9 X9_9
              exact s_nil ⟨X9_9, fun d hd => by cases hd; exact ⟨_, rfl, ⟨_, rfl, by have := hSo.size; omega, hb9_9⟩, fun _ b hb => by simp [blkOf] at hb; omega⟩⟩
            exact obl_nil
          intro w9_s3 X9_s3
          refine wv_cons rfl ?_
          rintro _ rfl
          refine wv_cons rfl ?_
          rintro _ rfl
          refine wv_cons rfl ?_
          rintro _ ⟨b9_8, rfl, hlo9_8, hb9_8⟩
          refine wv_cons rfl ?_
          rintro _ ⟨b9_9, rfl, hlo9_9, hb9_9⟩
          refine wv_nil ?_
          intro hD9_s3
          replace hS9 : Chg wd9 _ [] := hS9.trans X9_s3
          have hd89 : b9_8 ≠ b9_9 := hD9_s3 8 (by simp) 9 (by simp) (by decide) _ _ _ _ _ _ rfl rfl rfl rfl rfl rfl
          have hzs9 := X9_s3.size
          refine d_only 10 rfl (by kernel_rfl) ?_
          refine s_storeAll ty28 rfl rfl rfl hb9_8 (by rw [natsC_length, o1.1]) rfl (natsC_one _ _) ?_
          intro w910 z9_10 h9_10 X9_10
          replace hb9_9 := hb9_9.keep X9_10 (by simp; omega)
          replace hb9_8 := h9_10
          replace hS9 : Chg wd9 _ [] := (hS9.trans X9_10).mono (by intro k hk hlt; simp at hk; omega)
          refine s_nil ⟨.inr hS9, ?_⟩
          refine d_only 11 rfl (by kernel_rfl) ?_
          replace hG := hG.keep hS9 (by simp)
          replace hX : Chg w _ [] := (hX.trans hS9).mono (by intro k hk hlt; simp at hk ⊢ <;> first | omega | grind)
          replace hH := hH.keep0 hS9
          refine s_storeAll ty28 rfl rfl rfl hb9_9 (by rw [natsC_length, o2.1]) rfl (natsC_one _ _) ?_
          intro w911 z9_11 h9_11 X9_11
          replace hG := hG.keep X9_11 (by simp; omega)
          replace hX : Chg w _ [] := (hX.trans X9_11).mono (by intro k hk hlt; simp at hk ⊢ <;> first | omega | grind)
          replace hH := hH.keep X9_11 (fun p hp => by cases hp; simp; omega)
          replace hb9_8 := hb9_8.keep X9_11 (by simp; omega)
          replace hb9_9 := h9_11
          refine s_nil ⟨.inl rfl, ?_⟩
          refine d_done (by kernel_rfl) ?_
          have hzX9 := hX.size
          refine hK15 _ _ ?_
          refine c_seqdraw [] ([]) (by kernel_rfl) ?_
          intro K23 hK23 wd10 Xd10 hS10
          replace hG := hG.keep Xd10 (by simp)
          replace hX : Chg w _ [] := (hX.trans Xd10).mono (by intro k hk hlt; simp at hk ⊢ <;> first | omega | grind)
          replace hH := hH.keep0 Xd10
          replace hb9_8 := hb9_8.keep Xd10 (by simp)
          replace hb9_9 := hb9_9.keep Xd10 (by simp)
          have zd10 := Xd10.size
          have hzd10 := Xd10.size
          refine d_take 0 42 rfl (by kernel_rfl) rfl hS10 (fun wS hS => runs_move rfl) ?_
          refine d_take 2 44 rfl (by kernel_rfl) rfl hS10 (fun wS hS => runs_loadAgg ty28 rfl ((hb9_8.keep hS (by simp)).at) (by rw [natsC_length, o1.1])) ?_
          refine d_take 3 45 rfl (by kernel_rfl) rfl hS10 (fun wS hS => runs_loadAgg ty28 rfl ((hb9_9.keep hS (by simp)).at) (by rw [natsC_length, o2.1])) ?_
          refine d_only 1 rfl (by kernel_rfl) ?_
          refine s_callf (xs := [.const (.pointer none), .tmp 42]) rfl rfl Tryd.func15 rfl (by kernel_rfl) rfl (root0 hG (by omega) hH (by omega)) ?_
          rintro _ w101 ⟨rfl, X10_1⟩
          have zs10_1 := X10_1.size
          replace hS10 : Chg wd10 _ [] := hS10.trans X10_1
          refine s_nil ⟨.inr hS10, ?_⟩
          refine d_only 4 rfl (by kernel_rfl) ?_
          refine s_callf (xs := [.const (.pointer none), .tmp 44, .tmp 45]) rfl rfl Tryd.func16 rfl (by kernel_rfl) rfl (node0 (hG.keep hS10 (by simp)) (by have := hS10.size; omega) o1 o2) ?_
          rintro _ w104 ⟨rfl, X10_4⟩
          have zs10_4 := X10_4.size
          replace hS10 : Chg wd10 _ [] := hS10.trans X10_4
          refine s_nil ⟨.inr hS10, ?_⟩
          refine d_take 5 47 rfl (by kernel_rfl) rfl hS10 (fun wS hS => runs_dt (runs_hv_eq rfl rfl (root_ok _ _ (Nat.le_refl _) hH.ok) (node_ok _ _)) hroot) ?_
          refine d_take 6 48 rfl (by kernel_rfl) rfl hS10 (fun wS hS => runs_move rfl) ?_
          refine d_take 7 49 rfl (by kernel_rfl) rfl hS10 (fun wS hS => runs_loadAgg ty28 rfl ((hb9_8.keep hS (by simp)).at) (by rw [natsC_length, o1.1])) ?_
          refine d_take 8 50 rfl (by kernel_rfl) rfl hS10 (fun wS hS => runs_loadAgg ty28 rfl ((hb9_9.keep hS (by simp)).at) (by rw [natsC_length, o2.1])) ?_
          refine d_take 11 53 rfl (by kernel_rfl) rfl hS10 (fun wS hS => runs_slice_arr Tryd.underlying28 ty5 rfl) ?_
          refine d_take 12 54 rfl (by kernel_rfl) rfl hS10 (fun wS hS => runs_slice_arr Tryd.underlying28 ty5 rfl) ?_
          refine d_seg 17 [9, 10, 13] [[], [], [10]] [] [9, 10, 13] (fun i => match i with | 9 => SA.eq (hv (Sp.node (Sp.root (hs.take q)) (Sp.root (hs.drop q)))) | 10 => SA.lit 0 1 (flatC [.int .u8 1]) 5 | 13 => SA.parts 3 [[1], Sp.root (hs.take q), Sp.root (hs.drop q)] | _ => SA.any) #[true, true, true, true, true, true, true, true, true, true, true, true, true, true, false, false, false, false, false, false, false, false, false, false, false, false, false, false, false, false, false] (by kernel_rfl) (by kernel_rfl) (by decide) (by kernel_rfl) (fun _ X => hS10.trans X) ?_ ?_
          · refine obl_cons rfl ?_ ?_
            · intro wo Xo
              have Xo' : Chg wd10 wo [] := hS10.trans Xo
              have hSo := Xo'
              replace hG := hG.keep Xo' (by simp)
              replace hX : Chg w _ [] := (hX.trans Xo').mono (by intro k hk hlt; simp at hk ⊢ <;> first | omega | grind)
              replace hH := hH.keep0 Xo'
              replace hb9_8 := hb9_8.keep Xo' (by simp)
              replace hb9_9 := hb9_9.keep Xo' (by simp)
              refine wv_nil ?_
              refine s_callf (xs := [.const (.pointer none), .tmp 49, .tmp 50]) rfl rfl Tryd.func16 rfl (by kernel_rfl) rfl (node0 hG (by have := Xo'.size; omega) o1 o2) ?_
              rintro _ wc ⟨rfl, X10_9⟩
              have zs10_9 := X10_9.size
              exact s_nil ⟨X10_9, fun d hd => by cases hd; exact ⟨_, rfl, rfl, fun h => absurd h (by decide)⟩⟩
            refine obl_cons rfl ?_ ?_
            · intro wo Xo
              have Xo' : Chg wd10 wo [] := hS10.trans Xo
              have hSo := Xo'
              replace hG := hG.keep Xo' (by simp)
              replace hX : Chg w _ [] := (hX.trans Xo').mono (by intro k hk hlt; simp at hk ⊢ <;> first | omega | grind)
              replace hH := hH.keep0 Xo'
              replace hb9_8 := hb9_8.keep Xo' (by simp)
              replace hb9_9 := hb9_9.keep Xo' (by simp)
              refine wv_nil ?_
              refine s_lit (xs := [.const (.int .u8 1)]) Tryd.underlying32 ty5 rfl rfl rfl rfl rfl (by simp [Value.cells]) (by decide) (by decide) ?_
              intro b10_10 w10_10 e10_10 z10_10 hb10_10 X10_10
              exact s_nil ⟨X10_10, fun d hd => by cases hd; exact ⟨_, rfl, ⟨_, rfl, by have := hSo.size; omega, hb10_10⟩, fun h => absurd h (by decide)⟩⟩
            refine obl_cons rfl ?_ ?_
            · intro wo Xo
              have Xo' : Chg wd10 wo [] := hS10.trans Xo
              have hSo := Xo'
              replace hG := hG.keep Xo' (by simp)
              replace hX : Chg w _ [] := (hX.trans Xo').mono (by intro k hk hlt; simp at hk ⊢ <;> first | omega | grind)
              replace hH := hH.keep0 Xo'
              replace hb9_8 := hb9_8.keep Xo' (by simp)
              replace hb9_9 := hb9_9.keep Xo' (by simp)
              refine wv_cons rfl ?_
              rintro _ ⟨b10_10, rfl, hlo10_10, hb10_10⟩
              refine wv_nil ?_
              refine s_lit (xs := [.tmp 52, .tmp 53, .tmp 54]) Tryd.underlying22 ty32 rfl rfl rfl rfl rfl (by simp [Value.cells]) (by decide) (by decide) ?_
              intro b10_13 w10_13 e10_13 z10_13 hb10_13 X10_13
              have s10_13_hb10_10 := hb10_10.lt
              replace hb10_10 := hb10_10.keep X10_13 (by simp)
              exact s_nil ⟨X10_13, fun d hd => by cases hd; exact ⟨_, rfl, ⟨_, rfl, parts_three hb10_13 (lit1 (x := 1) hb10_10) (lit_reads (hb9_8.keep X10_13 (by simp)) (by rw [natsC_length, o1.1]) (by decide)) (lit_reads (hb9_9.keep X10_13 (by simp)) (by rw [natsC_length, o2.1]) (by decide)) (by simp) o1.2 o2.2⟩, fun h => absurd h (by decide)⟩⟩
            exact obl_nil
          intro w10_s9 X10_s9
          refine wv_cons rfl ?_
          rintro _ rfl
          refine wv_cons rfl ?_
          rintro _ ⟨b10_10, rfl, hlo10_10, hb10_10⟩
          refine wv_cons rfl ?_
          rintro _ ⟨ap13, rfl, hp13⟩
          refine wv_nil ?_
          intro hD10_s9
          replace hS10 : Chg wd10 _ [] := hS10.trans X10_s9
          have hzs10 := X10_s9.size
          refine d_only 14 rfl (by kernel_rfl) ?_
          refine s_callf (xs := [.const (.pointer none), .tmp 55]) rfl rfl Tryd.func17 rfl (by kernel_rfl) rfl (of0 (hG.keep hS10 (by simp)) (by have := hS10.size; omega) hp13 (by simp [o1.1, o2.1])) ?_
          rintro _ w1014 ⟨rfl, X10_14⟩
          replace hb10_10 := hb10_10.keep X10_14 (by simp)
          have zs10_14 := X10_14.size
          replace hS10 : Chg wd10 _ [] := hS10.trans X10_14
          refine s_nil ⟨.inr hS10, ?_⟩
          refine d_take 15 57 rfl (by kernel_rfl) rfl hS10 (fun wS hS => runs_dt (runs_hv_eq rfl rfl (node_ok _ _) (sha_ok _)) (by simp [Sp.node])) ?_
          refine d_take 16 58 rfl (by kernel_rfl) rfl hS10 (fun wS hS => runs_pickt rfl rfl) ?_
          refine d_take 17 59 rfl (by kernel_rfl) rfl hS10 (fun wS hS => runs_move rfl) ?_
          refine d_take 18 60 rfl (by kernel_rfl) rfl hS10 (fun wS hS => runs_move rfl) ?_
          refine d_take 19 61 rfl (by kernel_rfl) rfl hS10 (fun wS hS => runs_index_slice (0) Tryd.underlying22 ty32 rfl rfl (by omega) (by omega)) ?_
          refine d_take 20 62 rfl (by kernel_rfl) rfl hS10 (fun wS hS => runs_load1 ty32 rfl ((hvs.grow (hX.trans hS)).elem1 hv0)) ?_
          refine d_take 23 65 rfl (by kernel_rfl) rfl hS10 (fun wS hS => runs_move rfl) ?_
          refine d_take 24 66 rfl (by kernel_rfl) rfl hS10 (fun wS hS => runs_index_slice (0) Tryd.underlying22 ty32 rfl rfl (by omega) (by omega)) ?_
          refine d_take 25 67 rfl (by kernel_rfl) rfl hS10 (fun wS hS => runs_load1 ty32 rfl ((hvs.grow (hX.trans hS)).elem1 hv0)) ?_
          refine d_seg 4 [21, 22, 26] [[], [], [22]] [] [21, 22, 26] (fun i => match i with | 21 => SA.eq (hv (Sp.leaf b0)) | 22 => SA.lit 0 1 (flatC [.int .u8 0]) 5 | 26 => SA.parts 2 [[0], b0] | _ => SA.any) #[true, true, true, true, true, true, true, true, true, true, true, true, true, true, true, true, true, true, true, true, true, true, true, true, true, true, true, false, false, false, false] (by kernel_rfl) (by kernel_rfl) (by decide) (by kernel_rfl) (fun _ X => hS10.trans X) ?_ ?_
          · refine obl_cons rfl ?_ ?_
            · intro wo Xo
              have Xo' : Chg wd10 wo [] := hS10.trans Xo
              have hSo := Xo'
              replace hG := hG.keep Xo' (by simp)
              replace hX : Chg w _ [] := (hX.trans Xo').mono (by intro k hk hlt; simp at hk ⊢ <;> first | omega | grind)
              replace hH := hH.keep0 Xo'
              replace hb9_8 := hb9_8.keep Xo' (by simp)
              replace hb9_9 := hb9_9.keep Xo' (by simp)
              replace hb10_10 := hb10_10.keep Xo (by simp)
              refine wv_nil ?_
              refine s_callf (xs := [.const (.pointer none), .tmp 62]) rfl rfl Tryd.func18 rfl (by kernel_rfl) rfl (leaf0 hG (by have := Xo'.size; omega) (hrb.grow hX) hbl (by omega)) ?_
              rintro _ wc ⟨rfl, X10_21⟩
              have zs10_21 := X10_21.size
              exact s_nil ⟨X10_21, fun d hd => by cases hd; exact ⟨_, rfl, rfl, fun h => absurd h (by decide)⟩⟩
            refine obl_cons rfl ?_ ?_
            · intro wo Xo
              have Xo' : Chg wd10 wo [] := hS10.trans Xo
              have hSo := Xo'
              replace hG := hG.keep Xo' (by simp)
              replace hX : Chg w _ [] := (hX.trans Xo').mono (by intro k hk hlt; simp at hk ⊢ <;> first | omega | grind)
              replace hH := hH.keep0 Xo'
              replace hb9_8 := hb9_8.keep Xo' (by simp)
              replace hb9_9 := hb9_9.keep Xo' (by simp)
              replace hb10_10 := hb10_10.keep Xo (by simp)
              refine wv_nil ?_
              refine s_lit (xs := [.const (.int .u8 0)]) Tryd.underlying32 ty5 rfl rfl rfl rfl rfl (by simp [Value.cells]) (by decide) (by decide) ?_
              intro b10_22 w10_22 e10_22 z10_22 hb10_22 X10_22
              exact s_nil ⟨X10_22, fun d hd => by cases hd; exact ⟨_, rfl, ⟨_, rfl, by have := hSo.size; omega, hb10_22⟩, fun h => absurd h (by decide)⟩⟩
            refine obl_cons rfl ?_ ?_
            · intro wo Xo
              have Xo' : Chg wd10 wo [] := hS10.trans Xo
              have hSo := Xo'
              replace hG := hG.keep Xo' (by simp)
              replace hX : Chg w _ [] := (hX.trans Xo').mono (by intro k hk hlt; simp at hk ⊢ <;> first | omega | grind)
              replace hH := hH.keep0 Xo'
              replace hb9_8 := hb9_8.keep Xo' (by simp)
              replace hb9_9 := hb9_9.keep Xo' (by simp)
              replace hb10_10 := hb10_10.keep Xo (by simp)
              refine wv_cons rfl ?_
              rintro _ ⟨b10_22, rfl, hlo10_22, hb10_22⟩
              refine wv_nil ?_
              refine s_lit (xs := [.tmp 64, .tmp 67]) Tryd.underlying22 ty32 rfl rfl rfl rfl rfl (by simp [Value.cells]) (by decide) (by decide) ?_
              intro b10_26 w10_26 e10_26 z10_26 hb10_26 X10_26
              have s10_26_hb10_22 := hb10_22.lt
              replace hb10_22 := hb10_22.keep X10_26 (by simp)
              exact s_nil ⟨X10_26, fun d hd => by cases hd; exact ⟨_, rfl, ⟨_, rfl, parts_two hb10_26 (lit1 (x := 0) hb10_22) ((hrb.grow hX).grow X10_26) (by simp) hbl⟩, fun h => absurd h (by decide)⟩⟩
            exact obl_nil
          intro w10_s21 X10_s21
          replace hb10_10 := hb10_10.keep X10_s21 (by simp)
          refine wv_cons rfl ?_
          rintro _ rfl
          refine wv_cons rfl ?_
          rintro _ ⟨b10_22, rfl, hlo10_22, hb10_22⟩
          refine wv_cons rfl ?_
          rintro _ ⟨ap26, rfl, hp26⟩
          refine wv_nil ?_
          intro hD10_s21
          replace hS10 : Chg wd10 _ [] := hS10.trans X10_s21
          refine d_only 27 rfl (by kernel_rfl) ?_
          refine s_callf (xs := [.const (.pointer none), .tmp 68]) rfl rfl Tryd.func17 rfl (by kernel_rfl) rfl (of0 (hG.keep hS10 (by simp)) (by have := hS10.size; omega) hp26 (by simp; omega)) ?_
          rintro _ w1027 ⟨rfl, X10_27⟩
          replace hb10_10 := hb10_10.keep X10_27 (by simp)
          replace hb10_22 := hb10_22.keep X10_27 (by simp)
          have zs10_27 := X10_27.size
          replace hS10 : Chg wd10 _ [] := hS10.trans X10_27
          refine s_nil ⟨.inr hS10, ?_⟩
          refine d_take 28 70 rfl (by kernel_rfl) rfl hS10 (fun wS hS => runs_dt (runs_hv_eq rfl rfl (leaf_ok _) (sha_ok _)) (by simp [Sp.leaf])) ?_
          refine d_take 29 71 rfl (by kernel_rfl) rfl hS10 (fun wS hS => runs_pickt rfl rfl) ?_
          refine d_take 30 4 rfl (by kernel_rfl) rfl hS10 (fun wS hS => runs_assign rfl) ?_
          refine d_done (by kernel_rfl) ?_
          replace hG := hG.keep hS10 (by simp)
          replace hX : Chg w _ [] := (hX.trans hS10).mono (by intro k hk hlt; simp at hk ⊢ <;> first | omega | grind)
          replace hH := hH.keep0 hS10
          replace hb9_8 := hb9_8.keep hS10 (by simp)
          replace hb9_9 := hb9_9.keep hS10 (by simp)
          refine hK23 _ _ ?_
          refine c_ret ?_
          refine hret _ _ ?_
          exact ends1 (reads_tmp rfl) ⟨rfl, hX⟩
end Go.Proofs.YtecpedpfkdnfhaaDoor
