/- Part Forged of the proofs on this seat. Conditions: none beyond those in the theorems. By an AI agent. -/
import Derived.Test.YtecpedpfkdnfhaaDoorLaw2
import Derived.Test.YtecpedpfkdnfhaaDoorRoots
namespace Go.Proofs.YtecpedpfkdnfhaaDoor
open Go Go.RowKit

theorem place (z : Int) {n : Nat} (h : 0 < n) : ∃ i : Nat, i < n ∧ (z.tmod (n : Int) + n) % (n : Int) = (i : Int) ∧ -(n : Int) < z.tmod n ∧ z.tmod n < n := by
  have h1 : (0 : Int) < n := by omega
  have h2 := Int.tmod_lt_of_pos z h1
  have h3 := Int.lt_tmod_of_pos z h1
  have h4 := Int.emod_nonneg (z.tmod n + n) (show (n : Int) ≠ 0 by omega)
  have h5 := Int.emod_lt_of_pos (z.tmod n + n) h1
  exact ⟨((z.tmod n + n) % n).toNat, by omega, by omega, h3, h2⟩

set_option maxHeartbeats 8000000 in
theorem forged_calls (B : Nat) (bss : List (List Nat)) (a : Option Addr) (n c : Nat) (zs : List Int) (bs : List Nat) (ab : Option Addr) (nb cb : Nat) (w : World) (hG0 : GH B w) (hBw : B ≤ w.heap.size) (hP : Parts w a n c bss) (hzs : zs.length = 3) (hzw : ∀ z ∈ zs, -9223372036854775808 ≤ z ∧ z ≤ 9223372036854775807) (hb : Bytes w ab nb cb bs) (hbl : ∀ x ∈ bs, x < 256) :
    CallsR Tryd.prog 7 #[.slice a n c, .agg (intsC .i64 zs).toArray, .slice ab nb cb] w fun v w' => v = .bool true ∧ Chg w w' [] := by
  obtain ⟨z0, z1, z2, rfl⟩ : ∃ z0 z1 z2, zs = [z0, z1, z2] := by
    match zs, hzs with
    | [z0, z1, z2], _ => exact ⟨_, _, _, rfl⟩
  have hlen := hP.length
  have hblen := hb.length
  have hX : Chg w w [] := Chg.refl _ _
  have hG := hG0
  refine f_enter (l := [.slice a n c, .agg (intsC .i64 [z0, z1, z2]).toArray, .slice ab nb cb]) Tryd.func7 rfl rfl rfl rfl ?_
  cases hL : Sp.light bss with
  | false =>
    intro Qf hnrm hret
    refine c_seqreg (fun K1 hK1 => ?_)
    refine s_box rfl rfl rfl ?_
    intro b4 w0 e0_0 z0_0 hb4 X0_0
    have s0_0_hX := hX.size
    replace hG := hG.keep X0_0 (by simp)
    replace hX : Chg w _ [] := (hX.trans X0_0).mono (by intro k hk hlt; simp at hk ⊢ <;> first | omega | grind)
    replace hb4 : Blk w0 b4 ([.int .i64 z0, .int .i64 z1, .int .i64 z2]) 46 := hb4
    refine s_val rfl rfl (runs_assign rfl) ?_
    refine s_nil ?_
    have hlb4 := hb4.lt
    have hzX0 := hX.size
    refine hK1 _ _ ?_
    refine c_seq (fun K3 hK3 => ?_)
    refine c_seqreg (fun K4 hK4 => ?_)
    refine s_callf (xs := []) rfl rfl Tryd.func12 rfl (by kernel_rfl) rfl (fit_calls B _ hG (by omega)) ?_
    rintro _ w1 ⟨rfl, X1_0⟩
    replace hG := hG.keep X1_0 (by simp)
    replace hX : Chg w _ [] := (hX.trans X1_0).mono (by intro k hk hlt; simp at hk ⊢ <;> first | omega | grind)
    replace hb4 := hb4.keep X1_0 (by simp)
    have zs1_0 := X1_0.size
    refine s_val rfl rfl (runs_not rfl) ?_
    refine s_nil ?_
    refine hK4 _ _ ?_
    refine c_false rfl ?_
    refine c_skip ?_
    refine hK3 _ _ ?_
    refine c_seq (fun K6 hK6 => ?_)
    refine c_seqreg (fun K7 hK7 => ?_)
    refine s_val rfl rfl (runs_move rfl) ?_
    refine s_callf (xs := [.tmp 31]) rfl rfl Tryd.func13 rfl (by kernel_rfl) rfl (light_calls bss _ _ _ _ (hP.grow hX)) ?_
    rintro _ w3 ⟨rfl, X3_1⟩
    replace hG := hG.keep X3_1 (by simp)
    replace hX : Chg w _ [] := (hX.trans X3_1).mono (by intro k hk hlt; simp at hk ⊢ <;> first | omega | grind)
    replace hb4 := hb4.keep X3_1 (by simp)
    have zs3_1 := X3_1.size
    rw [hL]
    refine s_val rfl rfl (runs_not rfl) ?_
    refine s_val rfl rfl (runs_move rfl) ?_
    refine s_skip rfl rfl ?_
    refine s_skip rfl rfl ?_
    refine s_skip rfl rfl ?_
    refine s_val rfl rfl (runs_pickt rfl rfl) ?_
    refine s_val rfl rfl (runs_move rfl) ?_
    refine s_skip rfl rfl ?_
    refine s_skip rfl rfl ?_
    refine s_skip rfl rfl ?_
    refine s_val rfl rfl (runs_pickt rfl rfl) ?_
    refine s_nil ?_
    refine hK7 _ _ ?_
    refine c_true rfl ?_
    refine c_seqreg (fun K9 hK9 => ?_)
    refine s_val rfl rfl (runs_assign rfl) ?_
    refine s_nil ?_
    refine hK9 _ _ ?_
    refine c_ret ?_
    refine hret _ _ ?_
    exact ends1 (reads_tmp rfl) ⟨rfl, hX⟩
  | true =>
    have hl1 := Sp.light_len hL
    have hl2 := Sp.light_each hL
    intro Qf hnrm hret
    refine c_seqreg (fun K1 hK1 => ?_)
    refine s_box rfl rfl rfl ?_
    intro b4 w0 e0_0 z0_0 hb4 X0_0
    have s0_0_hX := hX.size
    replace hG := hG.keep X0_0 (by simp)
    replace hX : Chg w _ [] := (hX.trans X0_0).mono (by intro k hk hlt; simp at hk ⊢ <;> first | omega | grind)
    replace hb4 : Blk w0 b4 ([.int .i64 z0, .int .i64 z1, .int .i64 z2]) 46 := hb4
    refine s_val rfl rfl (runs_assign rfl) ?_
    refine s_nil ?_
    have hlb4 := hb4.lt
    have hzX0 := hX.size
    refine hK1 _ _ ?_
    refine c_seq (fun K3 hK3 => ?_)
    refine c_seqreg (fun K4 hK4 => ?_)
    refine s_callf (xs := []) rfl rfl Tryd.func12 rfl (by kernel_rfl) rfl (fit_calls B _ hG (by omega)) ?_
    rintro _ w1 ⟨rfl, X1_0⟩
    replace hG := hG.keep X1_0 (by simp)
    replace hX : Chg w _ [] := (hX.trans X1_0).mono (by intro k hk hlt; simp at hk ⊢ <;> first | omega | grind)
    replace hb4 := hb4.keep X1_0 (by simp)
    have zs1_0 := X1_0.size
    refine s_val rfl rfl (runs_not rfl) ?_
    refine s_nil ?_
    refine hK4 _ _ ?_
    refine c_false rfl ?_
    refine c_skip ?_
    refine hK3 _ _ ?_
    refine c_seq (fun K6 hK6 => ?_)
    rcases (show n = 0 ∨ (n ≠ 0 ∧ 100 < nb) ∨ (n ≠ 0 ∧ nb ≤ 100) by omega) with h0 | ⟨h0, h9⟩ | ⟨h0, h9⟩
    · refine c_seqreg (fun K7 hK7 => ?_)
      refine s_val rfl rfl (runs_move rfl) ?_
      refine s_callf (xs := [.tmp 31]) rfl rfl Tryd.func13 rfl (by kernel_rfl) rfl (light_calls bss _ _ _ _ (hP.grow hX)) ?_
      rintro _ w3 ⟨rfl, X3_1⟩
      replace hG := hG.keep X3_1 (by simp)
      replace hX : Chg w _ [] := (hX.trans X3_1).mono (by intro k hk hlt; simp at hk ⊢ <;> first | omega | grind)
      replace hb4 := hb4.keep X3_1 (by simp)
      have zs3_1 := X3_1.size
      rw [hL]
      refine s_val rfl rfl (runs_not rfl) ?_
      refine s_val rfl rfl (runs_move rfl) ?_
      refine s_val rfl rfl (runs_move rfl) ?_
      refine s_val rfl rfl (runs_len_slice Tryd.underlying22 rfl) ?_
      refine s_val rfl rfl (runs_dt (runs_eqd rfl rfl) (by omega)) ?_
      refine s_val rfl rfl (runs_pickf rfl rfl) ?_
      refine s_val rfl rfl (runs_move rfl) ?_
      refine s_skip rfl rfl ?_
      refine s_skip rfl rfl ?_
      refine s_skip rfl rfl ?_
      refine s_val rfl rfl (runs_pickt rfl rfl) ?_
      refine s_nil ?_
      refine hK7 _ _ ?_
      refine c_true rfl ?_
      refine c_seqreg (fun K9 hK9 => ?_)
      refine s_val rfl rfl (runs_assign rfl) ?_
      refine s_nil ?_
      refine hK9 _ _ ?_
      refine c_ret ?_
      refine hret _ _ ?_
      exact ends1 (reads_tmp rfl) ⟨rfl, hX⟩
    · refine c_seqreg (fun K7 hK7 => ?_)
      refine s_val rfl rfl (runs_move rfl) ?_
      refine s_callf (xs := [.tmp 31]) rfl rfl Tryd.func13 rfl (by kernel_rfl) rfl (light_calls bss _ _ _ _ (hP.grow hX)) ?_
      rintro _ w3 ⟨rfl, X3_1⟩
      replace hG := hG.keep X3_1 (by simp)
      replace hX : Chg w _ [] := (hX.trans X3_1).mono (by intro k hk hlt; simp at hk ⊢ <;> first | omega | grind)
      replace hb4 := hb4.keep X3_1 (by simp)
      have zs3_1 := X3_1.size
      rw [hL]
      refine s_val rfl rfl (runs_not rfl) ?_
      refine s_val rfl rfl (runs_move rfl) ?_
      refine s_val rfl rfl (runs_move rfl) ?_
      refine s_val rfl rfl (runs_len_slice Tryd.underlying22 rfl) ?_
      refine s_val rfl rfl (runs_df (runs_eqd rfl rfl) (by omega)) ?_
      refine s_val rfl rfl (runs_pickf rfl rfl) ?_
      refine s_val rfl rfl (runs_move rfl) ?_
      refine s_val rfl rfl (runs_move rfl) ?_
      refine s_val rfl rfl (runs_len_slice Tryd.underlying32 rfl) ?_
      refine s_val rfl rfl (runs_dt (runs_gt rfl rfl) (by omega)) ?_
      refine s_val rfl rfl (runs_pickf rfl rfl) ?_
      refine s_nil ?_
      refine hK7 _ _ ?_
      refine c_true rfl ?_
      refine c_seqreg (fun K11 hK11 => ?_)
      refine s_val rfl rfl (runs_assign rfl) ?_
      refine s_nil ?_
      refine hK11 _ _ ?_
      refine c_ret ?_
      refine hret _ _ ?_
      exact ends1 (reads_tmp rfl) ⟨rfl, hX⟩
    · refine c_seqreg (fun K7 hK7 => ?_)
      refine s_val rfl rfl (runs_move rfl) ?_
      refine s_callf (xs := [.tmp 31]) rfl rfl Tryd.func13 rfl (by kernel_rfl) rfl (light_calls bss _ _ _ _ (hP.grow hX)) ?_
      rintro _ w3 ⟨rfl, X3_1⟩
      replace hG := hG.keep X3_1 (by simp)
      replace hX : Chg w _ [] := (hX.trans X3_1).mono (by intro k hk hlt; simp at hk ⊢ <;> first | omega | grind)
      replace hb4 := hb4.keep X3_1 (by simp)
      have zs3_1 := X3_1.size
      rw [hL]
      refine s_val rfl rfl (runs_not rfl) ?_
      refine s_val rfl rfl (runs_move rfl) ?_
      refine s_val rfl rfl (runs_move rfl) ?_
      refine s_val rfl rfl (runs_len_slice Tryd.underlying22 rfl) ?_
      refine s_val rfl rfl (runs_df (runs_eqd rfl rfl) (by omega)) ?_
      refine s_val rfl rfl (runs_pickf rfl rfl) ?_
      refine s_val rfl rfl (runs_move rfl) ?_
      refine s_val rfl rfl (runs_move rfl) ?_
      refine s_val rfl rfl (runs_len_slice Tryd.underlying32 rfl) ?_
      refine s_val rfl rfl (runs_df (runs_gt rfl rfl) (by omega)) ?_
      refine s_val rfl rfl (runs_pickf rfl rfl) ?_
      refine s_nil ?_
      have hn0 : 0 < n := by omega
      refine hK7 _ _ ?_
      refine c_false rfl ?_
      refine c_skip ?_
      refine hK6 _ _ ?_
      refine c_seqreg (fun K13 hK13 => ?_)
      refine s_val rfl rfl (runs_build_zeroS (xs := #[(0, 1)]) Tryd.underlying37 ty37 rfl (by kernel_rfl)) ?_
      refine s_box rfl rfl rfl ?_
      intro bt w5t e5_1 z5_1 hbt X5_1
      have s5_1_hX := hX.size
      have s5_1_hb4 := hb4.lt
      replace hG := hG.keep X5_1 (by simp)
      replace hX : Chg w _ [] := (hX.trans X5_1).mono (by intro k hk hlt; simp at hk ⊢ <;> first | omega | grind)
      replace hb4 := hb4.keep X5_1 (by simp)
      replace hbt : Blk w5t bt ([.slice none 0 0]) 37 := hbt
      have hlbt := hbt.lt
      have hT := TL.new (B := B) (lo := bt) hbt (by omega) (by omega)
      refine s_val rfl rfl (runs_assign rfl) ?_
      refine s_nil ?_
      refine hK13 _ _ ?_
      refine c_seqreg (fun K15 hK15 => ?_)
      refine s_val rfl rfl (runs_move rfl) ?_
      refine s_val rfl rfl (runs_move rfl) ?_
      refine s_callf (xs := [.tmp 46, .tmp 47]) rfl rfl Tryd.func19 rfl (by kernel_rfl) rfl (hT.noted hG (by omega) (hP.grow hX) hL (fun W x => hP.grow ((hX.trans x).mono (by intro k hk hlt; have h := hT.ft _ (by simpa using hk); simp [Rg] at h <;> omega))) (by simp <;> omega)) ?_
      rintro vh w7 ⟨hown, vt7, hC7⟩
      replace hG := hG.keep hC7.chg (fun k hk => by have h := hC7.ft k hk; simp [Rg] at h <;> omega)
      replace hX : Chg w _ [] := (hX.trans hC7.chg).mono (by intro k hk hlt; have h := hC7.ft k (by simpa using hk); simp [Rg] at h <;> omega)
      replace hb4 := hb4.keep hC7.chg (fun hm => by have h := hC7.ft _ hm; simp [Rg] at h <;> omega)
      have zs6_2 := hC7.chg.size
      obtain ⟨hs, hhs⟩ : ∃ hs, hs = bss.map Sp.leaf := ⟨_, rfl⟩
      rw [← hhs] at hown
      have hsok : ∀ x ∈ hs, HOk x := by rw [hhs]; exact leaves_ok bss
      obtain ⟨g, ch, rfl, hB8, hgw⟩ := hsb_of_own hown hsok (by rw [hhs, List.length_map, hlen]) hn0
      have hT := hC7.tl
      simp only [Value.ownBlock, Option.toList_some, List.append_nil, List.nil_append] at hT
      have hgl := hB8.lt
      have hsl : hs.length = n := hB8.len
      have hcn := hB8.le
      refine s_val rfl rfl (runs_assign rfl) ?_
      refine s_nil ?_
      have hzX6 := hX.size
      refine hK15 _ _ ?_
      refine c_seqreg (fun K17 hK17 => ?_)
      refine s_val rfl rfl (runs_move rfl) ?_
      refine s_val rfl rfl (runs_move rfl) ?_
      refine s_callf (xs := [.tmp 49, .tmp 50]) rfl rfl Tryd.func15 rfl (by kernel_rfl) rfl (hT.root [] (by simp) hG (by omega) hB8.rd (fun p hp => by cases hp; exact .inr (by simp)) (by omega) (by simp <;> omega)) ?_
      rintro _ w72 ⟨rfl, vt72, hC72⟩
      replace hG := hG.keep hC72.chg (fun k hk => by have h := hC72.ft k hk; simp [Rg] at h <;> omega)
      replace hX : Chg w _ [] := (hX.trans hC72.chg).mono (by intro k hk hlt; have h := hC72.ft k (by simpa using hk); simp [Rg] at h <;> omega)
      replace hb4 := hb4.keep hC72.chg (fun hm => by have h := hC72.ft _ hm; simp [Rg] at h <;> omega)
      replace hB8 := hB8.keep hC72.chg (fun hm => by have h := hC72.ft _ hm; simp [Rg] at h <;> omega)
      have zs7_2 := hC72.chg.size
      have hT := hC72.tl
      have hn1 := Sp.notes_le hs
      have hro := root_len hs hsok
      have hro' := root_ok _ _ (Nat.le_refl _) hsok
      refine s_alloc ty28 rfl rfl ?_
      intro b7 w73a e7_3 z7_3 hb7 X7_3
      have s7_3_hX := hX.size
      have s7_3_hb4 := hb4.lt
      replace hG := hG.keep X7_3 (by simp)
      replace hX : Chg w _ [] := (hX.trans X7_3).mono (by intro k hk hlt; simp at hk ⊢ <;> first | omega | grind)
      replace hb4 := hb4.keep X7_3 (by simp)
      replace hB8 := hB8.keep X7_3 (by simp)
      replace hT := hT.keep X7_3 (by simp)
      refine s_storeAll ty28 rfl rfl rfl hb7 (by rw [natsC_length, hro]) rfl (natsC_one _ _) ?_
      intro w73s z7_4 h7_4 X7_4
      replace hG := hG.keep X7_4 (by simp; omega)
      replace hX : Chg w _ [] := (hX.trans X7_4).mono (by intro k hk hlt; simp at hk ⊢ <;> first | omega | grind)
      replace hb4 := hb4.keep X7_4 (by simp; omega)
      replace hB8 := hB8.keep X7_4 (by simp; omega)
      replace hT := hT.keep X7_4 (by simp [Rg] <;> omega)
      replace hb7 := h7_4
      refine s_nil ?_
      have hl7 := hb7.lt
      have hzX7 := hX.size
      obtain ⟨i, hin, hi1, hi2, hi3⟩ := place z0 hn0
      obtain ⟨x, hx⟩ : ∃ x, hs[i]? = some x := ⟨_, List.getElem?_eq_getElem (by omega)⟩
      have okx := hsok x (List.mem_of_getElem? hx)
      obtain ⟨vs, hvs0, hho0⟩ := hP.rd
      obtain ⟨ba, oa, rfl⟩ := hvs0.some_ (by omega)
      obtain ⟨li, hli⟩ : ∃ l, bss[i]? = some l := ⟨_, List.getElem?_eq_getElem (by omega)⟩
      obtain ⟨vi, hvi⟩ : ∃ v, vs[i]? = some v := ⟨_, List.getElem?_eq_getElem (by rw [hho0.1]; omega)⟩
      obtain ⟨⟨ai, ci, rfl, hrbi0⟩, hbil⟩ := hho0.2 i vi li hvi hli
      have hxl : x = Sp.leaf li := by rw [hhs, List.getElem?_map, hli] at hx; exact (Option.some.inj hx).symm
      have okb := leaf_ok bs
      refine hK17 _ _ ?_
      refine c_seqreg (fun K21 hK21 => ?_)
      refine s_val rfl rfl (runs_index_array (0) Tryd.underlying46 ty3 rfl rfl (by omega) (by omega)) ?_
      refine s_val rfl rfl (runs_load1 ty3 rfl (hb4.c1 (j := 0) rfl)) ?_
      refine s_val rfl rfl (runs_move rfl) ?_
      refine s_val rfl rfl (runs_len_slice Tryd.underlying25 rfl) ?_
      refine s_val rfl rfl (runs_rem rfl rfl (by omega)) ?_
      refine s_val rfl rfl (runs_move rfl) ?_
      refine s_val rfl rfl (runs_len_slice Tryd.underlying25 rfl) ?_
      refine s_val rfl rfl (runs_add64 rfl rfl (by omega)) ?_
      refine s_val rfl rfl (runs_move rfl) ?_
      refine s_val rfl rfl (runs_len_slice Tryd.underlying25 rfl) ?_
      refine s_val rfl rfl (runs_as (v' := .int .i64 (i : Int)) (runs_rem64 rfl rfl (by omega) (by omega)) (congrArg (Value.int .i64) hi1)) ?_
      refine s_val rfl rfl (runs_assign rfl) ?_
      refine s_nil ?_
      refine hK21 _ _ ?_
      refine c_seqreg (fun K22 hK22 => ?_)
      refine s_val rfl rfl (runs_move rfl) ?_
      refine s_val rfl rfl (runs_move rfl) ?_
      refine s_callf (xs := [.const (.pointer none), .tmp 64, .tmp 65]) rfl rfl Tryd.func22 rfl (by kernel_rfl) rfl (path_calls _ hs (Nat.le_refl _) B i _ _ _ _ hG (by omega) hB8.rd (by omega) (by omega)) ?_
      rintro _ w9 ⟨vp, rfl, hovp, X9_2⟩
      replace hG := hG.keep X9_2 (by simp)
      replace hX : Chg w _ [] := (hX.trans X9_2).mono (by intro k hk hlt; simp at hk ⊢ <;> first | omega | grind)
      replace hb4 := hb4.keep X9_2 (by simp)
      replace hB8 := hB8.keep X9_2 (by simp)
      replace hT := hT.keep X9_2 (by simp)
      replace hb7 := hb7.keep X9_2 (by simp)
      have zs9_2 := X9_2.size
      obtain ⟨p, hp⟩ : ∃ p, p = Sp.path hs i := ⟨_, rfl⟩
      rw [← hp] at hovp
      have okp : ∀ x ∈ p, HOk x := by rw [hp]; exact path_ok _ hs i (Nat.le_refl _) hsok
      obtain ⟨ap, cp, rfl, hHp, hobp⟩ := own_hs hovp okp rfl
      obtain ⟨lp, hlp⟩ : ∃ l, l = (ap.map (·.block)).toList := ⟨_, rfl⟩
      have hinp : ∀ q, ap = some q → q.block ∈ lp := fun q hq => by rw [hlp, hq]; simp
      have hltp : ∀ q, ap = some q → w73s.heap.size ≤ q.block ∧ q.block < w9.heap.size := fun q hq => hovp.lt q.block (by rw [hobp, hq]; rfl)
      have hltl : ∀ x ∈ lp, w73s.heap.size ≤ x ∧ x < w9.heap.size := fun x hx => by
        rw [hlp] at hx; simp only [Option.mem_toList, Option.mem_def, Option.map_eq_some_iff] at hx
        obtain ⟨q, hq, rfl⟩ := hx; exact hltp q hq
      have hpl : p.length ≤ n := by rw [hp, ← hsl]; exact Sp.path_len hs i
      have hcp : Sp.climb x i n p = (Sp.root hs, true) := by have := Sp.climb_path _ hs i x (Nat.le_refl _) hx; rw [hsl, ← hp] at this; exact this
      have hfit : ∀ y, (Sp.climb y i n p).2 = true := fun y => by rw [Sp.climb_fit y x i n p p rfl, hcp]
      obtain ⟨ls, hls⟩ : ∃ ls, ls = b7 :: (lp ++ [g]) := ⟨_, rfl⟩
      refine s_val rfl rfl (runs_move rfl) ?_
      refine s_val rfl rfl (runs_extract rfl rfl) ?_
      refine s_val rfl rfl (runs_extract rfl rfl) ?_
      refine s_val rfl rfl (runs_assign rfl) ?_
      refine s_val rfl rfl (runs_assign rfl) ?_
      refine s_nil ?_
      have hzX9 := hX.size
      refine hK22 _ _ ?_
      refine c_seqreg (fun K24 hK24 => ?_)
      refine s_val rfl rfl (runs_move rfl) ?_
      refine s_val rfl rfl (runs_move rfl) ?_
      refine s_val rfl rfl (runs_move rfl) ?_
      refine s_callf (xs := [.tmp 71, .tmp 72]) rfl rfl Tryd.func18 rfl (by kernel_rfl) rfl (hT.leaf (b7 :: lp) (by intro x hx; simp only [List.mem_cons] at hx; rcases hx with rfl | hx; omega; have := hltl x hx; omega) hG (by omega) (hb.grow hX) hbl (by omega) (by simp <;> omega)) ?_
      rintro _ w103 ⟨rfl, vt103, hC103⟩
      replace hG := hG.keep hC103.chg (fun k hk => by have h := hC103.ft k hk; simp [Rg] at h <;> omega)
      replace hX : Chg w _ [] := (hX.trans hC103.chg).mono (by intro k hk hlt; have h := hC103.ft k (by simpa using hk); simp [Rg] at h <;> omega)
      replace hb4 := hb4.keep hC103.chg (fun hm => by have h := hC103.ft _ hm; simp [Rg] at h <;> omega)
      replace hB8 := hB8.keep hC103.chg (fun hm => by have h := hC103.ft _ hm; simp [Rg] at h <;> omega)
      replace hb7 := hb7.keep hC103.chg (fun hm => by have h := hC103.ft _ hm; simp [Rg] at h <;> omega)
      replace hHp := hHp.keep hC103.chg (fun q hq hm => (hC103.ft _ hm).2.2 (by have := hinp q hq; simp [this]))
      have zs10_3 := hC103.chg.size
      have hT := hC103.tl
      refine s_val rfl rfl (runs_move rfl) ?_
      refine s_val rfl rfl (runs_move rfl) ?_
      refine s_val rfl rfl (runs_len_slice Tryd.underlying25 rfl) ?_
      refine s_val rfl rfl (runs_move rfl) ?_
      refine s_callf (xs := [.tmp 70, .tmp 73, .tmp 74, .tmp 76, .tmp 77]) rfl rfl Tryd.func23 rfl (by kernel_rfl) rfl (hT.climb [] (by simp) hG (by omega) okb hHp (fun q hq => .inr (by have := hinp q hq; simp [this])) (fun q hq _ => by have := hltp q hq; omega) (by omega) (by omega) hin (by simp <;> omega)) ?_
      rintro _ w108 ⟨rfl, vt108, hC108⟩
      replace hG := hG.keep hC108.chg (fun k hk => by have h := hC108.ft k hk; simp [Rg] at h <;> omega)
      replace hX : Chg w _ [] := (hX.trans hC108.chg).mono (by intro k hk hlt; have h := hC108.ft k (by simpa using hk); simp [Rg] at h <;> omega)
      replace hb4 := hb4.keep hC108.chg (fun hm => by have h := hC108.ft _ hm; simp [Rg] at h <;> omega)
      replace hB8 := hB8.keep hC108.chg (fun hm => by have h := hC108.ft _ hm; simp [Rg] at h <;> omega)
      replace hb7 := hb7.keep hC108.chg (fun hm => by have h := hC108.ft _ hm; simp [Rg] at h <;> omega)
      replace hHp := hHp.keep hC108.chg (fun q hq hm => (hC108.ft _ hm).2.2 (by have := hinp q hq; simp [this]))
      have zs10_8 := hC108.chg.size
      have hT := hC108.tl
      have hnc := Sp.climbN_len (Sp.leaf bs) p i n
      rw [hfit]
      obtain ⟨y1, hy1⟩ : ∃ y, y = (Sp.climb (Sp.leaf bs) i n p).1 := ⟨_, rfl⟩
      rw [← hy1]
      have oky1 : HOk y1 := by rw [hy1]; exact climb_ok _ okb _ p i n (Nat.le_refl _)
      refine s_val rfl rfl (runs_move rfl) ?_
      refine s_val rfl rfl (runs_extract rfl rfl) ?_
      refine s_val rfl rfl (runs_extract rfl rfl) ?_
      refine s_alloc ty28 rfl rfl ?_
      intro b13 w1012a e10_12 z10_12 hb13 X10_12
      have s10_12_hX := hX.size
      have s10_12_hb4 := hb4.lt
      have s10_12_hb7 := hb7.lt
      replace hG := hG.keep X10_12 (by simp)
      replace hX : Chg w _ [] := (hX.trans X10_12).mono (by intro k hk hlt; simp at hk ⊢ <;> first | omega | grind)
      replace hb4 := hb4.keep X10_12 (by simp)
      replace hB8 := hB8.keep X10_12 (by simp)
      replace hb7 := hb7.keep X10_12 (by simp)
      replace hHp := hHp.keep0 X10_12
      replace hT := hT.keep X10_12 (by simp)
      refine s_storeAll ty28 rfl rfl rfl hb13 (by rw [natsC_length, oky1.1]) rfl (natsC_one _ _) ?_
      intro w1012s z10_13 h10_13 X10_13
      replace hG := hG.keep X10_13 (by simp; omega)
      replace hX : Chg w _ [] := (hX.trans X10_13).mono (by intro k hk hlt; simp at hk ⊢ <;> first | omega | grind)
      replace hb4 := hb4.keep X10_13 (by simp; omega)
      replace hB8 := hB8.keep X10_13 (by simp; omega)
      replace hb7 := hb7.keep X10_13 (by simp; omega)
      replace hHp := hHp.keep X10_13 (fun q hq => by have := hltp q hq; simp; omega)
      replace hT := hT.keep X10_13 (by simp [Rg] <;> omega)
      replace hb13 := h10_13
      refine s_val rfl rfl (runs_assign rfl) ?_
      refine s_nil ?_
      have hlb13 := hb13.lt
      have hzX10 := hX.size
      refine hK24 _ _ ?_
      refine c_seq (fun K29 hK29 => ?_)
      refine c_seq (fun K30 hK30 => ?_)
      have hJ30 : ∀  (W : World), (GH B W ∧ Chg w W [] ∧ HsB W g n ch hs 28 ∧ HsR W ap p.length cp p ∧ Blk W b7 (natsC .u8 (Sp.root hs)) 28 ∧ Blk W b4 [.int .i64 z0, .int .i64 z1, .int .i64 z2] 46 ∧ Blk W b13 (natsC .u8 y1) 28 ∧ w9.heap.size ≤ W.heap.size ∧ TL W B bt w108.heap.size ([] ++ (b7 :: lp ++ [g])) bt vt108 (bss.map (0 :: ·) ++ Sp.notes hs ++ [0 :: bs] ++ Sp.climbN (Sp.leaf bs) i n p)) → ∀ ρ : Env, SubL ([(97, .bool false), (2, .slice ab nb cb), (13, .pointer (some ⟨b13, 0, none⟩)), (4, .pointer (some ⟨b4, 0, none⟩)), (7, .pointer (some ⟨bt, 0, none⟩)), (8, .slice (some ⟨g, 0, none⟩) n ch), (9, .pointer (some ⟨b7, 0, none⟩)), (10, .int .i64 (i : Int)), (11, .slice ap p.length cp), (0, .slice (some ⟨ba, oa, none⟩) n c)]) ρ → K30 ρ W := by
        intro  W hI ρ hρ
        refine hK30 _ _ (c_sub _ hρ ?_)
        clear hρ
        obtain ⟨hG, hX, hB8, hHp, hb7, hb4, hb13, hzW, hT⟩ := hI
        have hzX := hX.size
        have htop := hT.top
        have hlb7 := hb7.lt
        have hlb4 := hb4.lt
        have hgl := hB8.lt
        have hlb13 := hb13.lt
        refine c_false rfl ?_
        refine c_skip ?_
        refine hK29 _ _ ?_
        refine c_seq (fun K31 hK31 => ?_)
        obtain ⟨INV, hINV⟩ : ∃ INV : World → Bool → Nat → Prop, INV = fun W wv bd => GH B W ∧ Chg w W [] ∧ HsB W g n ch hs 28 ∧ HsR W ap p.length cp p ∧ Blk W b7 (natsC .u8 (Sp.root hs)) 28 ∧ Blk W b4 [.int .i64 z0, .int .i64 z1, .int .i64 z2] 46 ∧ w9.heap.size ≤ W.heap.size ∧ ∃ hi vt L, TL W B bt hi ls bt vt L ∧ L.length ≤ bd ∧ (∀ x ∈ L, x.length ≤ 101) ∧ (∀ x, x ∈ bss.map (0 :: ·) ∨ x ∈ Sp.notes hs → x ∈ L) ∧ (wv = true → Sp.Clash L) := ⟨_, rfl⟩
        have hJ31 : ∀ (wv : Bool) (W : World), (INV W wv 200) → ∀ ρ : Env, SubL ([(15, .bool wv), (4, .pointer (some ⟨b4, 0, none⟩)), (7, .pointer (some ⟨bt, 0, none⟩)), (8, .slice (some ⟨g, 0, none⟩) n ch), (9, .pointer (some ⟨b7, 0, none⟩)), (10, .int .i64 (i : Int)), (11, .slice ap p.length cp), (0, .slice (some ⟨ba, oa, none⟩) n c)]) ρ → K31 ρ W := by
          intro wv W hI ρ hρ
          refine hK31 _ _ (c_sub _ hρ ?_)
          clear hρ
          rw [hINV] at hI
          obtain ⟨hG, hX, hB8, hHp, hb7, hb4, hzW, hiT, vtL, L, hT, hLl, hLs, hLb, hcl⟩ := hI
          have hzX := hX.size
          have htop := hT.top
          have hlb7 := hb7.lt
          have hlb4 := hb4.lt
          have hgl := hB8.lt
          refine c_seq (fun K32 hK32 => ?_)
          refine c_seq (fun K33 hK33 => ?_)
          have hJ33 : ∀ (wv : Bool) (W : World), (INV W wv 200) → ∀ ρ : Env, SubL ([(17, .bool false), (15, .bool wv), (4, .pointer (some ⟨b4, 0, none⟩)), (7, .pointer (some ⟨bt, 0, none⟩)), (8, .slice (some ⟨g, 0, none⟩) n ch), (9, .pointer (some ⟨b7, 0, none⟩)), (10, .int .i64 (i : Int)), (11, .slice ap p.length cp), (0, .slice (some ⟨ba, oa, none⟩) n c)]) ρ → K33 ρ W := by
            intro wv W hI ρ hρ
            refine hK33 _ _ (c_sub _ hρ ?_)
            clear hρ
            rw [hINV] at hI
            obtain ⟨hG, hX, hB8, hHp, hb7, hb4, hzW, hiT, vtL, L, hT, hLl, hLs, hLb, hcl⟩ := hI
            have hzX := hX.size
            have htop := hT.top
            have hlb7 := hb7.lt
            have hlb4 := hb4.lt
            have hgl := hB8.lt
            refine c_seqreg (fun K34 hK34 => ?_)
            refine s_val rfl rfl (runs_move rfl) ?_
            refine s_nil ?_
            obtain ⟨j, hjn, hj1, hj2, hj3⟩ := place z1 hn0
            obtain ⟨lj, hlj⟩ : ∃ l, bss[j]? = some l := ⟨_, List.getElem?_eq_getElem (by omega)⟩
            obtain ⟨vj, hvj⟩ : ∃ v, vs[j]? = some v := ⟨_, List.getElem?_eq_getElem (by rw [hho0.1]; omega)⟩
            obtain ⟨⟨aj, cj, rfl, hrbj0⟩, hbjl⟩ := hho0.2 j vj lj hvj hlj
            obtain ⟨xj, hxj⟩ : ∃ x, hs[j]? = some x := ⟨_, List.getElem?_eq_getElem (by omega)⟩
            have hxjl : xj = Sp.leaf lj := by rw [hhs, List.getElem?_map, hlj] at hxj; exact (Option.some.inj hxj).symm
            refine hK34 _ _ ?_
            refine c_false rfl ?_
            refine c_skip ?_
            refine hK32 _ _ ?_
            refine c_seqreg (fun K35 hK35 => ?_)
            refine s_val rfl rfl (runs_index_array (1) Tryd.underlying46 ty3 rfl rfl (by omega) (by omega)) ?_
            refine s_val rfl rfl (runs_load1 ty3 rfl (hb4.c1 (j := 1) rfl)) ?_
            refine s_val rfl rfl (runs_move rfl) ?_
            refine s_val rfl rfl (runs_len_slice Tryd.underlying25 rfl) ?_
            refine s_val rfl rfl (runs_rem rfl rfl (by omega)) ?_
            refine s_val rfl rfl (runs_move rfl) ?_
            refine s_val rfl rfl (runs_len_slice Tryd.underlying25 rfl) ?_
            refine s_val rfl rfl (runs_add64 rfl rfl (by omega)) ?_
            refine s_val rfl rfl (runs_move rfl) ?_
            refine s_val rfl rfl (runs_len_slice Tryd.underlying25 rfl) ?_
            refine s_val rfl rfl (runs_as (v' := .int .i64 (j : Int)) (runs_rem64 rfl rfl (by omega) (by omega)) (congrArg (Value.int .i64) hj1)) ?_
            refine s_val rfl rfl (runs_assign rfl) ?_
            refine s_nil ?_
            refine hK35 _ _ ?_
            refine c_seqreg (fun K36 hK36 => ?_)
            refine s_val rfl rfl (runs_move rfl) ?_
            refine s_val rfl rfl (runs_move rfl) ?_
            refine s_val rfl rfl (runs_move rfl) ?_
            refine s_val rfl rfl (runs_index_slice (i) Tryd.underlying25 ty28 rfl rfl (by omega) (by omega)) ?_
            refine s_val rfl rfl (runs_loadAgg ty28 rfl (hB8.rd.elem hx) (by rw [natsC_length, okx.1])) ?_
            refine s_val rfl rfl (runs_move rfl) ?_
            refine s_val rfl rfl (runs_move rfl) ?_
            refine s_val rfl rfl (runs_len_slice Tryd.underlying25 rfl) ?_
            refine s_val rfl rfl (runs_move rfl) ?_
            refine s_callf (xs := [.tmp 140, .tmp 144, .tmp 145, .tmp 147, .tmp 148]) rfl rfl Tryd.func23 rfl (by kernel_rfl) rfl (hT.climb [] (by simp) hG (by omega) okx hHp (fun q hq => .inr (by have := hinp q hq; simp [hls, this])) (fun q hq _ => by have := hltp q hq; omega) (by omega) (by omega) hjn (by omega)) ?_
            rintro _ w189 ⟨rfl, vt189, hC189⟩
            replace hG := hG.keep hC189.chg (fun k hk => by have h := hC189.ft k hk; simp [Rg] at h <;> omega)
            replace hX : Chg w _ [] := (hX.trans hC189.chg).mono (by intro k hk hlt; have h := hC189.ft k (by simpa using hk); simp [Rg] at h <;> omega)
            replace hB8 := hB8.keep hC189.chg (fun hm => (hC189.ft _ hm).2.2 (by simp [hls]))
            replace hHp := hHp.keep hC189.chg (fun q hq hm => (hC189.ft _ hm).2.2 (by have := hinp q hq; simp [hls, this]))
            replace hb7 := hb7.keep hC189.chg (fun hm => (hC189.ft _ hm).2.2 (by simp [hls]))
            replace hb4 := hb4.keep hC189.chg (fun hm => by have h := hC189.ft _ hm; simp [Rg] at h <;> omega)
            have zs18_9 := hC189.chg.size
            have hT := hC189.tl
            have hnc := Sp.climbN_len x p j n
            obtain ⟨y2, hy2⟩ : ∃ y, y = (Sp.climb x j n p).1 := ⟨_, rfl⟩
            obtain ⟨ok2, hok2⟩ : ∃ y, y = (Sp.climb x j n p).2 := ⟨_, rfl⟩
            rw [← hy2, ← hok2]
            have oky2 : HOk y2 := by rw [hy2]; exact climb_ok _ okx _ p j n (Nat.le_refl _)
            refine s_val rfl rfl (runs_move rfl) ?_
            refine s_val rfl rfl (runs_extract rfl rfl) ?_
            refine s_val rfl rfl (runs_extract rfl rfl) ?_
            refine s_alloc ty28 rfl rfl ?_
            intro b19 w1813a e18_13 z18_13 hb19 X18_13
            have s18_13_hX := hX.size
            have s18_13_hb7 := hb7.lt
            have s18_13_hb4 := hb4.lt
            replace hG := hG.keep X18_13 (by simp)
            replace hX : Chg w _ [] := (hX.trans X18_13).mono (by intro k hk hlt; simp at hk ⊢ <;> first | omega | grind)
            replace hB8 := hB8.keep X18_13 (by simp)
            replace hHp := hHp.keep0 X18_13
            replace hb7 := hb7.keep X18_13 (by simp)
            replace hb4 := hb4.keep X18_13 (by simp)
            replace hT := hT.keep X18_13 (by simp)
            refine s_storeAll ty28 rfl rfl rfl hb19 (by rw [natsC_length, oky2.1]) rfl (natsC_one _ _) ?_
            intro w1813s z18_14 h18_14 X18_14
            replace hG := hG.keep X18_14 (by simp; omega)
            replace hX : Chg w _ [] := (hX.trans X18_14).mono (by intro k hk hlt; simp at hk ⊢ <;> first | omega | grind)
            replace hB8 := hB8.keep X18_14 (by simp; omega)
            replace hHp := hHp.keep X18_14 (fun q hq => by have := hltp q hq; simp; omega)
            replace hb7 := hb7.keep X18_14 (by simp; omega)
            replace hb4 := hb4.keep X18_14 (by simp; omega)
            replace hT := hT.keep X18_14 (by simp [Rg] <;> omega)
            replace hb19 := h18_14
            refine s_val rfl rfl (runs_assign rfl) ?_
            refine s_nil ?_
            have hlb19 := hb19.lt
            refine hK36 _ _ ?_
            refine c_seq (fun K40 hK40 => ?_)
            have hJ40 : ∀ (wv : Bool) (W : World), (INV W wv 300) → ∀ ρ : Env, SubL ([(15, .bool wv), (4, .pointer (some ⟨b4, 0, none⟩)), (7, .pointer (some ⟨bt, 0, none⟩)), (8, .slice (some ⟨g, 0, none⟩) n ch), (9, .pointer (some ⟨b7, 0, none⟩)), (10, .int .i64 (i : Int)), (11, .slice ap p.length cp), (0, .slice (some ⟨ba, oa, none⟩) n c)]) ρ → K40 ρ W := by
              intro wv W hI ρ hρ
              refine hK40 _ _ (c_sub _ hρ ?_)
              clear hρ
              rw [hINV] at hI
              obtain ⟨hG, hX, hB8, hHp, hb7, hb4, hzW, hiT, vtL, L, hT, hLl, hLs, hLb, hcl⟩ := hI
              have hzX := hX.size
              have htop := hT.top
              have hlb7 := hb7.lt
              have hlb4 := hb4.lt
              have hgl := hB8.lt
              refine c_seq (fun K41 hK41 => ?_)
              refine c_seqreg (fun K42 hK42 => ?_)
              refine s_val rfl rfl (runs_move rfl) ?_
              refine s_val rfl rfl (runs_len_slice Tryd.underlying25 rfl) ?_
              refine s_val rfl rfl (runs_gt rfl rfl) ?_
              refine s_nil ?_
              refine hK42 _ _ ?_
              refine c_dec rfl (fun hp0 => ?_) (fun hp0 => ?_)
              · refine c_seqreg (fun K43 hK43 => ?_)
                refine s_val rfl rfl (runs_move rfl) ?_
                refine s_append Tryd.underlying25 ty28 rfl (by decide) rfl rfl rfl (World.ownsRow_nil _ W.heap.size _ _) rfl hHp.rd (natsC_one _ _) (by simp only [maxLen]; omega) (by omega) (by omega) ?_
                intro v21 w21 H21_1 X21_1 F21_1
                replace X21_1 : Chg _ _ [] := X21_1
                replace hG := hG.keep X21_1 (by simp)
                replace hX : Chg w _ [] := (hX.trans X21_1).mono (by intro k hk hlt; simp at hk ⊢ <;> first | omega | grind)
                replace hB8 := hB8.keep X21_1 (by simp)
                replace hHp := hHp.keep0 X21_1
                replace hb7 := hb7.keep X21_1 (by simp)
                replace hb4 := hb4.keep X21_1 (by simp)
                replace hT := hT.keep X21_1 (by simp)
                have hs21 := X21_1.size
                obtain ⟨g20, c20, rfl, hB20, hg20⟩ := hsb_copy H21_1 okp rfl (by omega)
                have hl20 := hB20.lt
                refine s_val rfl rfl (runs_assign rfl) ?_
                refine s_nil ?_
                obtain ⟨k, hk⟩ : ∃ k, k = land64 z2 1023 % p.length := ⟨_, rfl⟩
                obtain ⟨m, hm⟩ : ∃ m, m = land64 z2 31 := ⟨_, rfl⟩
                have hkp : k < p.length := by rw [hk]; exact Nat.mod_lt _ (by omega)
                have hm32 : m < 32 := by have := land64_le (a := z2) (m := 31) (by decide); omega
                obtain ⟨xk, hxk⟩ : ∃ x, p[k]? = some x := ⟨_, List.getElem?_eq_getElem hkp⟩
                have okk := okp xk (List.mem_of_getElem? hxk)
                have hc20 := hB20.le
                refine hK43 _ _ ?_
                refine c_seqdraw [16] ([]) (by kernel_rfl) ?_
                intro K45 hK45 wd22 Xd22 hS22
                replace hG := hG.keep Xd22 (by simp)
                replace hX : Chg w _ [] := (hX.trans Xd22).mono (by intro k hk hlt; simp at hk ⊢ <;> first | omega | grind)
                replace hB8 := hB8.keep Xd22 (by simp)
                replace hHp := hHp.keep0 Xd22
                replace hb7 := hb7.keep Xd22 (by simp)
                replace hb4 := hb4.keep Xd22 (by simp)
                replace hT := hT.keep Xd22 (by simp)
                replace hB20 := hB20.keep Xd22 (by simp)
                have zd22 := Xd22.size
                refine d_take 0 179 rfl (by kernel_rfl) rfl hS22 (fun wS hS => runs_move rfl) ?_
                refine d_take 1 180 rfl (by kernel_rfl) rfl hS22 (fun wS hS => runs_index_array (2) Tryd.underlying46 ty3 rfl rfl (by omega) (by omega)) ?_
                refine d_take 2 181 rfl (by kernel_rfl) rfl hS22 (fun wS hS => runs_load1 ty3 rfl ((hb4.keep hS (by simp)).c1 (j := 2) rfl)) ?_
                refine d_take 3 182 rfl (by kernel_rfl) rfl hS22 (fun wS hS => runs_and64 1023 rfl (by decide)) ?_
                refine d_take 4 183 rfl (by kernel_rfl) rfl hS22 (fun wS hS => runs_move rfl) ?_
                refine d_take 5 184 rfl (by kernel_rfl) rfl hS22 (fun wS hS => runs_len_slice Tryd.underlying25 rfl) ?_
                refine d_take 6 185 rfl (by kernel_rfl) rfl hS22 (fun wS hS => runs_as (v' := .int .i64 (k : Int)) (runs_rem64 rfl rfl (by omega) (by omega)) (congrArg (Value.int .i64) (by rw [hk]; simp))) ?_
                refine d_take 7 186 rfl (by kernel_rfl) rfl hS22 (fun wS hS => runs_index_array (2) Tryd.underlying46 ty3 rfl rfl (by omega) (by omega)) ?_
                refine d_take 8 187 rfl (by kernel_rfl) rfl hS22 (fun wS hS => runs_load1 ty3 rfl ((hb4.keep hS (by simp)).c1 (j := 2) rfl)) ?_
                refine d_take 9 188 rfl (by kernel_rfl) rfl hS22 (fun wS hS => runs_as (v' := .int .i64 (m : Int)) (runs_and64 31 rfl (by decide)) (by rw [hm])) ?_
                refine d_take 10 189 rfl (by kernel_rfl) rfl hS22 (fun wS hS => runs_index_slice (k) Tryd.underlying25 ty28 rfl rfl (by omega) (by omega)) ?_
                refine d_take 11 190 rfl (by kernel_rfl) rfl hS22 (fun wS hS => runs_index_array (m) Tryd.underlying28 ty5 rfl rfl (by omega) (by omega)) ?_
                refine d_take 12 191 rfl (by kernel_rfl) rfl hS22 (fun wS hS => runs_load1 ty5 rfl ((hB20.keep hS (by simp)).byte hxk hm32)) ?_
                refine d_take 13 192 rfl (by kernel_rfl) rfl hS22 (fun wS hS => runs_inc8 rfl) ?_
                refine d_only 14 rfl (by kernel_rfl) ?_
                refine s_val rfl rfl (runs_index_slice (k) Tryd.underlying25 ty28 rfl rfl (by omega) (by omega)) ?_
                refine s_nil ⟨.inr hS22, ?_⟩
                refine d_take 15 194 rfl (by kernel_rfl) rfl hS22 (fun wS hS => runs_index_array (m) Tryd.underlying28 ty5 rfl rfl (by omega) (by omega)) ?_
                refine d_only 16 rfl (by kernel_rfl) ?_
                replace hG := hG.keep hS22 (by simp)
                replace hX : Chg w _ [] := (hX.trans hS22).mono (by intro k hk hlt; simp at hk ⊢ <;> first | omega | grind)
                replace hB8 := hB8.keep hS22 (by simp)
                replace hHp := hHp.keep0 hS22
                replace hb7 := hb7.keep hS22 (by simp)
                replace hb4 := hb4.keep hS22 (by simp)
                replace hT := hT.keep hS22 (by simp)
                replace hB20 := hB20.keep hS22 (by simp)
                obtain ⟨r20, hblk20⟩ := hB20.blk
                have hfl : (natsC .u8 p.flatten).length = p.length * 32 := by rw [natsC_length, flat32 okp]
                refine s_store1 ty5 rfl rfl rfl hblk20 (by rfl) (by rw [List.length_append]; omega) ?_
                intro w22 z22 h22 X22
                replace hB20 := hB20.bump hxk hm32 hblk20 h22
                replace hG := hG.keep X22 (by simp <;> omega)
                replace hX : Chg w _ [] := (hX.trans X22).mono (by intro k hk hlt; simp at hk; omega)
                replace hT := hT.keep X22 (by simp [Rg] <;> omega)
                replace hB8 := hB8.keep X22 (by simp; omega)
                replace hb7 := hb7.keep X22 (by simp; omega)
                replace hb4 := hb4.keep X22 (by simp; omega)
                replace hHp := hHp.keep X22 (fun q hq => by have := hltp q hq; simp; omega)
                refine s_nil ⟨.inl rfl, ?_⟩
                refine d_done (by kernel_rfl) ?_
                obtain ⟨q, hq⟩ : ∃ q, q = p.set k (Sp.bump xk m) := ⟨_, rfl⟩
                rw [← hq] at hB20
                have okq := hB20.ok
                have hql : q.length = p.length := hB20.len
                have hqne : q ≠ p := fun e => by
                  have h1 : q[k]? = p[k]? := by rw [e]
                  rw [hq, List.getElem?_set_self hkp, hxk] at h1
                  exact bump_ne okk hm32 (Option.some.inj h1)
                have hqf : (Sp.climb x i n q).2 = true := by rw [Sp.climb_fit x x i n q p hql, hcp]
                refine hK45 _ _ ?_
                refine c_seqreg (fun K47 hK47 => ?_)
                refine s_val rfl rfl (runs_move rfl) ?_
                refine s_val rfl rfl (runs_move rfl) ?_
                refine s_val rfl rfl (runs_move rfl) ?_
                refine s_val rfl rfl (runs_index_slice (i) Tryd.underlying25 ty28 rfl rfl (by omega) (by omega)) ?_
                refine s_val rfl rfl (runs_loadAgg ty28 rfl (hB8.rd.elem hx) (by rw [natsC_length, okx.1])) ?_
                refine s_val rfl rfl (runs_move rfl) ?_
                refine s_val rfl rfl (runs_move rfl) ?_
                refine s_val rfl rfl (runs_len_slice Tryd.underlying25 rfl) ?_
                refine s_val rfl rfl (runs_move rfl) ?_
                refine s_callf (xs := [.tmp 196, .tmp 200, .tmp 201, .tmp 203, .tmp 204]) rfl rfl Tryd.func23 rfl (by kernel_rfl) rfl (hT.climb [g20] (by simp <;> omega) hG (by omega) okx hB20.rd (fun p hp => by cases hp; exact .inr (by simp)) (fun p hp _ => by cases hp; exact hB20.lt) (by omega) (by omega) hin (by omega)) ?_
                rintro _ w239 ⟨rfl, vt239, hC239⟩
                replace hG := hG.keep hC239.chg (fun k hk => by have h := hC239.ft k hk; simp [Rg] at h <;> omega)
                replace hX : Chg w _ [] := (hX.trans hC239.chg).mono (by intro k hk hlt; have h := hC239.ft k (by simpa using hk); simp [Rg] at h <;> omega)
                replace hB8 := hB8.keep hC239.chg (fun hm => (hC239.ft _ hm).2.2 (by simp [hls]))
                replace hHp := hHp.keep hC239.chg (fun q hq hm => (hC239.ft _ hm).2.2 (by have := hinp q hq; simp [hls, this]))
                replace hb7 := hb7.keep hC239.chg (fun hm => (hC239.ft _ hm).2.2 (by simp [hls]))
                replace hb4 := hb4.keep hC239.chg (fun hm => by have h := hC239.ft _ hm; simp [Rg] at h <;> omega)
                have zs23_9 := hC239.chg.size
                have hT := hC239.tl
                have hnc := Sp.climbN_len x q i n
                obtain ⟨y3, hy3⟩ : ∃ y, y = (Sp.climb x i n q).1 := ⟨_, rfl⟩
                rw [← hy3, hqf]
                have oky3 : HOk y3 := by rw [hy3]; exact climb_ok _ okx _ q i n (Nat.le_refl _)
                refine s_val rfl rfl (runs_move rfl) ?_
                refine s_val rfl rfl (runs_extract rfl rfl) ?_
                refine s_val rfl rfl (runs_extract rfl rfl) ?_
                refine s_alloc ty28 rfl rfl ?_
                intro b21 w2313a e23_13 z23_13 hb21 X23_13
                have s23_13_hX := hX.size
                have s23_13_hb7 := hb7.lt
                have s23_13_hb4 := hb4.lt
                replace hG := hG.keep X23_13 (by simp)
                replace hX : Chg w _ [] := (hX.trans X23_13).mono (by intro k hk hlt; simp at hk ⊢ <;> first | omega | grind)
                replace hB8 := hB8.keep X23_13 (by simp)
                replace hHp := hHp.keep0 X23_13
                replace hb7 := hb7.keep X23_13 (by simp)
                replace hb4 := hb4.keep X23_13 (by simp)
                replace hT := hT.keep X23_13 (by simp)
                refine s_storeAll ty28 rfl rfl rfl hb21 (by rw [natsC_length, oky3.1]) rfl (natsC_one _ _) ?_
                intro w2313s z23_14 h23_14 X23_14
                replace hG := hG.keep X23_14 (by simp; omega)
                replace hX : Chg w _ [] := (hX.trans X23_14).mono (by intro k hk hlt; simp at hk ⊢ <;> first | omega | grind)
                replace hB8 := hB8.keep X23_14 (by simp; omega)
                replace hHp := hHp.keep X23_14 (fun q hq => by have := hltp q hq; simp; omega)
                replace hb7 := hb7.keep X23_14 (by simp; omega)
                replace hb4 := hb4.keep X23_14 (by simp; omega)
                replace hT := hT.keep X23_14 (by simp [Rg] <;> omega)
                replace hb21 := h23_14
                refine s_val rfl rfl (runs_assign rfl) ?_
                refine s_nil ?_
                have hlb21 := hb21.lt
                refine hK47 _ _ ?_
                refine c_seq (fun K51 hK51 => ?_)
                refine c_seqreg (fun K52 hK52 => ?_)
                refine s_val rfl rfl (runs_move rfl) ?_
                refine s_val rfl rfl (runs_not rfl) ?_
                refine s_nil ?_
                refine hK52 _ _ ?_
                refine c_false rfl ?_
                refine c_skip ?_
                refine hK51 _ _ ?_
                refine c_seq (fun K53 hK53 => ?_)
                have hJ53 : ∀ (wv : Bool) (W : World), (INV W wv 500) → ∀ ρ : Env, SubL ([(15, .bool wv), (4, .pointer (some ⟨b4, 0, none⟩)), (7, .pointer (some ⟨bt, 0, none⟩)), (8, .slice (some ⟨g, 0, none⟩) n ch), (9, .pointer (some ⟨b7, 0, none⟩)), (10, .int .i64 (i : Int)), (11, .slice ap p.length cp), (0, .slice (some ⟨ba, oa, none⟩) n c)]) ρ → K53 ρ W := by
                  intro wv W hI ρ hρ
                  refine hK53 _ _ (c_sub _ hρ ?_)
                  clear hρ
                  rw [hINV] at hI
                  obtain ⟨hG, hX, hB8, hHp, hb7, hb4, hzW, hiT, vtL, L, hT, hLl, hLs, hLb, hcl⟩ := hI
                  have hzX := hX.size
                  have htop := hT.top
                  have hlb7 := hb7.lt
                  have hlb4 := hb4.lt
                  have hgl := hB8.lt
                  refine c_seqdraw [] ([]) (by kernel_rfl) ?_
                  intro K54 hK54 wd27 Xd27 hS27
                  replace hG := hG.keep Xd27 (by simp)
                  replace hX : Chg w _ [] := (hX.trans Xd27).mono (by intro k hk hlt; simp at hk ⊢ <;> first | omega | grind)
                  replace hB8 := hB8.keep Xd27 (by simp)
                  replace hHp := hHp.keep0 Xd27
                  replace hb7 := hb7.keep Xd27 (by simp)
                  replace hb4 := hb4.keep Xd27 (by simp)
                  replace hT := hT.keep Xd27 (by simp)
                  have zd27 := Xd27.size
                  have hdf : (Sp.climb x i n (p.drop 1)).2 = false := by
                    cases hc : (Sp.climb x i n (p.drop 1)).2 with
                    | false => rfl
                    | true => have := Sp.climb_fits x x i n (p.drop 1) p hc (by rw [hcp]); rw [List.length_drop] at this; omega
                  refine d_take 0 217 rfl (by kernel_rfl) rfl hS27 (fun wS hS => runs_move rfl) ?_
                  refine d_take 1 218 rfl (by kernel_rfl) rfl hS27 (fun wS hS => runs_move rfl) ?_
                  refine d_take 2 219 rfl (by kernel_rfl) rfl hS27 (fun wS hS => runs_index_slice (i) Tryd.underlying25 ty28 rfl rfl (by omega) (by omega)) ?_
                  refine d_take 3 220 rfl (by kernel_rfl) rfl hS27 (fun wS hS => runs_loadAgg ty28 rfl ((hB8.keep hS (by simp)).rd.elem hx) (by rw [natsC_length, okx.1])) ?_
                  refine d_take 4 221 rfl (by kernel_rfl) rfl hS27 (fun wS hS => runs_move rfl) ?_
                  refine d_take 5 222 rfl (by kernel_rfl) rfl hS27 (fun wS hS => runs_move rfl) ?_
                  refine d_take 6 223 rfl (by kernel_rfl) rfl hS27 (fun wS hS => runs_len_slice Tryd.underlying25 rfl) ?_
                  refine d_take 7 224 rfl (by kernel_rfl) rfl hS27 (fun wS hS => runs_move rfl) ?_
                  refine d_take 8 225 rfl (by kernel_rfl) rfl hS27 (fun wS hS => runs_slice_from (1) Tryd.underlying25 ty28 rfl rfl (by omega) (by omega)) ?_
                  refine d_two 9 13 rfl rfl (by kernel_rfl) ?_ ?_
                  · refine s_callf (xs := [.const (.pointer none), .tmp 220, .tmp 221, .tmp 223, .tmp 225]) rfl rfl Tryd.func23 rfl (by kernel_rfl) rfl (climb0 (hG.keep hS27 (by simp)) (by have := hS27.size; omega) okx ((hHp.keep0 hS27).from_ 1 (by omega)) (by omega) (by omega) hin) ?_
                    rintro _ w279 ⟨rfl, X27_9⟩
                    have zs27_9 := X27_9.size
                    rw [hdf]
                    replace hS27 : Chg wd27 _ [] := hS27.trans X27_9
                    refine s_nil ⟨.inr hS27, ?_⟩
                    refine d_take 10 216 rfl (by kernel_rfl) rfl hS27 (fun wS hS => runs_move rfl) ?_
                    refine d_take 11 227 rfl (by kernel_rfl) rfl hS27 (fun wS hS => runs_extract rfl rfl) ?_
                    refine d_take 12 228 rfl (by kernel_rfl) rfl hS27 (fun wS hS => runs_extract rfl rfl) ?_
                    refine d_only 13 rfl (by kernel_rfl) ?_
                    refine s_alloc ty28 rfl rfl ?_
                    intro b23 w2713 e27_13 z27_13 hb23 X27_13
                    have hb23lo : wd27.heap.size ≤ b23 := by have := hS27.size; omega
                    replace hS27 : Chg wd27 _ [] := hS27.trans X27_13
                    refine s_nil ⟨.inr hS27, ?_⟩
                    refine d_only 14 rfl (by kernel_rfl) ?_
                    refine s_storeAll ty28 rfl rfl rfl hb23 (by rw [natsC_length, (climb_ok x okx _ (p.drop 1) i n (Nat.le_refl _)).1]) rfl (natsC_one _ _) ?_
                    intro w2714 z27_14 h27_14 X27_14
                    replace hb23 := h27_14
                    replace hS27 : Chg wd27 _ [] := (hS27.trans X27_14).mono (by intro k hk hlt; simp at hk; omega)
                    refine s_nil ⟨.inr hS27, ?_⟩
                    refine d_take 15 24 rfl (by kernel_rfl) rfl hS27 (fun wS hS => runs_assign rfl) ?_
                    refine d_done (by kernel_rfl) ?_
                    replace hG := hG.keep hS27 (by simp)
                    replace hX : Chg w _ [] := (hX.trans hS27).mono (by intro k hk hlt; simp at hk ⊢ <;> first | omega | grind)
                    replace hB8 := hB8.keep hS27 (by simp)
                    replace hHp := hHp.keep0 hS27
                    replace hb7 := hb7.keep hS27 (by simp)
                    replace hb4 := hb4.keep hS27 (by simp)
                    replace hT := hT.keep hS27 (by simp)
                    have hzE := hS27.size
                    refine hK54 _ _ ?_
                    refine c_seqreg (fun K58 hK58 => ?_)
                    refine s_val rfl rfl (runs_move rfl) ?_
                    refine s_nil ?_
                    refine hK58 _ _ ?_
                    refine c_false rfl ?_
                    refine c_skip ?_
                    refine hK41 _ _ ?_
                    refine c_seqreg (fun K59 hK59 => ?_)
                    refine s_val rfl rfl (runs_move rfl) ?_
                    refine s_val rfl rfl (runs_move rfl) ?_
                    refine s_val rfl rfl (runs_index_slice (i) Tryd.underlying25 ty28 rfl rfl (by omega) (by omega)) ?_
                    refine s_val rfl rfl (runs_loadAgg ty28 rfl (hB8.rd.elem hx) (by rw [natsC_length, okx.1])) ?_
                    refine s_val rfl rfl (runs_move rfl) ?_
                    refine s_val rfl rfl (runs_len_slice Tryd.underlying25 rfl) ?_
                    refine s_val rfl rfl (runs_move rfl) ?_
                    refine s_callf (xs := [.const (.pointer none), .tmp 234, .const (.int .i64 (-1)), .tmp 236, .tmp 237]) rfl rfl Tryd.func23 rfl (by kernel_rfl) rfl (climb_bad _ _ (-1) n _ _ _ _ (.inl (by omega))) ?_
                    rintro _ w307 ⟨rfl, X30_7⟩
                    replace hG := hG.keep X30_7 (by simp)
                    replace hX : Chg w _ [] := (hX.trans X30_7).mono (by intro k hk hlt; simp at hk ⊢ <;> first | omega | grind)
                    replace hB8 := hB8.keep X30_7 (by simp)
                    replace hHp := hHp.keep0 X30_7
                    replace hb7 := hb7.keep X30_7 (by simp)
                    replace hb4 := hb4.keep X30_7 (by simp)
                    replace hT := hT.keep X30_7 (by simp)
                    replace hb23 := hb23.keep X30_7 (by simp)
                    have zs30_7 := X30_7.size
                    refine s_val rfl rfl (runs_move rfl) ?_
                    refine s_val rfl rfl (runs_extract rfl rfl) ?_
                    refine s_val rfl rfl (runs_extract rfl rfl) ?_
                    refine s_alloc ty28 rfl rfl ?_
                    intro b25 w3011a e30_11 z30_11 hb25 X30_11
                    have s30_11_hX := hX.size
                    have s30_11_hb7 := hb7.lt
                    have s30_11_hb4 := hb4.lt
                    have s30_11_hb23 := hb23.lt
                    replace hG := hG.keep X30_11 (by simp)
                    replace hX : Chg w _ [] := (hX.trans X30_11).mono (by intro k hk hlt; simp at hk ⊢ <;> first | omega | grind)
                    replace hB8 := hB8.keep X30_11 (by simp)
                    replace hHp := hHp.keep0 X30_11
                    replace hb7 := hb7.keep X30_11 (by simp)
                    replace hb4 := hb4.keep X30_11 (by simp)
                    replace hT := hT.keep X30_11 (by simp)
                    replace hb23 := hb23.keep X30_11 (by simp)
                    refine s_storeAll ty28 rfl rfl rfl hb25 (by rw [natsC_length, zero_ok.1]) rfl (natsC_one _ _) ?_
                    intro w3011s z30_12 h30_12 X30_12
                    replace hG := hG.keep X30_12 (by simp; omega)
                    replace hX : Chg w _ [] := (hX.trans X30_12).mono (by intro k hk hlt; simp at hk ⊢ <;> first | omega | grind)
                    replace hB8 := hB8.keep X30_12 (by simp; omega)
                    replace hHp := hHp.keep X30_12 (fun q hq => by have := hltp q hq; simp; omega)
                    replace hb7 := hb7.keep X30_12 (by simp; omega)
                    replace hb4 := hb4.keep X30_12 (by simp; omega)
                    replace hT := hT.keep X30_12 (by simp [Rg] <;> omega)
                    replace hb23 := hb23.keep X30_12 (by simp; omega)
                    replace hb25 := h30_12
                    refine s_val rfl rfl (runs_assign rfl) ?_
                    refine s_nil ?_
                    refine hK59 _ _ ?_
                    refine c_seqreg (fun K63 hK63 => ?_)
                    refine s_val rfl rfl (runs_move rfl) ?_
                    refine s_val rfl rfl (runs_move rfl) ?_
                    refine s_val rfl rfl (runs_index_slice (i) Tryd.underlying25 ty28 rfl rfl (by omega) (by omega)) ?_
                    refine s_val rfl rfl (runs_loadAgg ty28 rfl (hB8.rd.elem hx) (by rw [natsC_length, okx.1])) ?_
                    refine s_val rfl rfl (runs_move rfl) ?_
                    refine s_val rfl rfl (runs_len_slice Tryd.underlying25 rfl) ?_
                    refine s_val rfl rfl (runs_move rfl) ?_
                    refine s_val rfl rfl (runs_len_slice Tryd.underlying25 rfl) ?_
                    refine s_val rfl rfl (runs_move rfl) ?_
                    refine s_callf (xs := [.const (.pointer none), .tmp 245, .tmp 247, .tmp 249, .tmp 250]) rfl rfl Tryd.func23 rfl (by kernel_rfl) rfl (climb_bad _ _ (n : Int) n _ _ _ _ (.inr (by omega))) ?_
                    rintro _ w319 ⟨rfl, X31_9⟩
                    replace hG := hG.keep X31_9 (by simp)
                    replace hX : Chg w _ [] := (hX.trans X31_9).mono (by intro k hk hlt; simp at hk ⊢ <;> first | omega | grind)
                    replace hB8 := hB8.keep X31_9 (by simp)
                    replace hHp := hHp.keep0 X31_9
                    replace hb7 := hb7.keep X31_9 (by simp)
                    replace hb4 := hb4.keep X31_9 (by simp)
                    replace hT := hT.keep X31_9 (by simp)
                    replace hb23 := hb23.keep X31_9 (by simp)
                    replace hb25 := hb25.keep X31_9 (by simp)
                    have zs31_9 := X31_9.size
                    refine s_val rfl rfl (runs_move rfl) ?_
                    refine s_val rfl rfl (runs_extract rfl rfl) ?_
                    refine s_val rfl rfl (runs_extract rfl rfl) ?_
                    refine s_alloc ty28 rfl rfl ?_
                    intro b27 w3113a e31_13 z31_13 hb27 X31_13
                    have s31_13_hX := hX.size
                    have s31_13_hb7 := hb7.lt
                    have s31_13_hb4 := hb4.lt
                    have s31_13_hb23 := hb23.lt
                    have s31_13_hb25 := hb25.lt
                    replace hG := hG.keep X31_13 (by simp)
                    replace hX : Chg w _ [] := (hX.trans X31_13).mono (by intro k hk hlt; simp at hk ⊢ <;> first | omega | grind)
                    replace hB8 := hB8.keep X31_13 (by simp)
                    replace hHp := hHp.keep0 X31_13
                    replace hb7 := hb7.keep X31_13 (by simp)
                    replace hb4 := hb4.keep X31_13 (by simp)
                    replace hT := hT.keep X31_13 (by simp)
                    replace hb23 := hb23.keep X31_13 (by simp)
                    replace hb25 := hb25.keep X31_13 (by simp)
                    refine s_storeAll ty28 rfl rfl rfl hb27 (by rw [natsC_length, zero_ok.1]) rfl (natsC_one _ _) ?_
                    intro w3113s z31_14 h31_14 X31_14
                    replace hG := hG.keep X31_14 (by simp; omega)
                    replace hX : Chg w _ [] := (hX.trans X31_14).mono (by intro k hk hlt; simp at hk ⊢ <;> first | omega | grind)
                    replace hB8 := hB8.keep X31_14 (by simp; omega)
                    replace hHp := hHp.keep X31_14 (fun q hq => by have := hltp q hq; simp; omega)
                    replace hb7 := hb7.keep X31_14 (by simp; omega)
                    replace hb4 := hb4.keep X31_14 (by simp; omega)
                    replace hT := hT.keep X31_14 (by simp [Rg] <;> omega)
                    replace hb23 := hb23.keep X31_14 (by simp; omega)
                    replace hb25 := hb25.keep X31_14 (by simp; omega)
                    replace hb27 := h31_14
                    refine s_val rfl rfl (runs_assign rfl) ?_
                    refine s_nil ?_
                    refine hK63 _ _ ?_
                    cases wv
                    · refine c_seqreg (fun K67 hK67 => ?_)
                      refine s_val rfl rfl (runs_move rfl) ?_
                      refine s_val rfl rfl (runs_not rfl) ?_
                      refine s_val rfl rfl (runs_move rfl) ?_
                      refine s_val rfl rfl (runs_move rfl) ?_
                      refine s_val rfl rfl (runs_not rfl) ?_
                      refine s_val rfl rfl (runs_pickt rfl rfl) ?_
                      refine s_val rfl rfl (runs_move rfl) ?_
                      refine s_val rfl rfl (runs_move rfl) ?_
                      refine s_val rfl rfl (runs_not rfl) ?_
                      refine s_val rfl rfl (runs_move rfl) ?_
                      refine s_skip rfl rfl ?_
                      refine s_skip rfl rfl ?_
                      refine s_val rfl rfl (runs_pickt rfl rfl) ?_
                      refine s_val rfl rfl (runs_pickt rfl rfl) ?_
                      refine s_val rfl rfl (runs_assign rfl) ?_
                      refine s_nil ?_
                      refine hK67 _ _ ?_
                      refine c_ret ?_
                      refine hret _ _ ?_
                      exact ends1 (reads_tmp rfl) ⟨rfl, hX⟩
                    · refine c_seqreg (fun K67 hK67 => ?_)
                      refine s_val rfl rfl (runs_move rfl) ?_
                      refine s_val rfl rfl (runs_not rfl) ?_
                      refine s_val rfl rfl (runs_move rfl) ?_
                      refine s_val rfl rfl (runs_move rfl) ?_
                      refine s_val rfl rfl (runs_not rfl) ?_
                      refine s_val rfl rfl (runs_pickt rfl rfl) ?_
                      refine s_val rfl rfl (runs_move rfl) ?_
                      refine s_val rfl rfl (runs_move rfl) ?_
                      refine s_val rfl rfl (runs_not rfl) ?_
                      refine s_val rfl rfl (runs_move rfl) ?_
                      refine s_val rfl rfl (runs_move rfl) ?_
                      refine s_callf (xs := [.tmp 264]) rfl rfl Tryd.func20 rfl (by kernel_rfl) rfl (hT.clash hG (by omega) (fun x hx => by have := hLs x hx; omega)) ?_
                      rintro _ wcl ⟨bc, rfl, hbc, Xcl⟩
                      replace hG := hG.keep Xcl (by simp)
                      replace hX : Chg w _ [] := (hX.trans Xcl).mono (by intro k hk hlt; simp at hk ⊢ <;> first | omega | grind)
                      replace hB8 := hB8.keep Xcl (by simp)
                      replace hHp := hHp.keep0 Xcl
                      replace hb7 := hb7.keep Xcl (by simp)
                      replace hb4 := hb4.keep Xcl (by simp)
                      replace hT := hT.keep Xcl (by simp)
                      replace hb23 := hb23.keep Xcl (by simp)
                      replace hb25 := hb25.keep Xcl (by simp)
                      replace hb27 := hb27.keep Xcl (by simp)
                      have zs32_11 := Xcl.size
                      obtain rfl := hbc.2 (hcl rfl)
                      refine s_val rfl rfl (runs_pickf rfl rfl) ?_
                      refine s_val rfl rfl (runs_pickt rfl rfl) ?_
                      refine s_val rfl rfl (runs_assign rfl) ?_
                      refine s_nil ?_
                      refine hK67 _ _ ?_
                      refine c_ret ?_
                      refine hret _ _ ?_
                      exact ends1 (reads_tmp rfl) ⟨rfl, hX⟩
                  · refine s_alloc ty28 rfl rfl ?_
                    intro b23 w2713 e27_13 z27_13 hb23 X27_13
                    have hb23lo : wd27.heap.size ≤ b23 := by have := hS27.size; omega
                    replace hS27 : Chg wd27 _ [] := hS27.trans X27_13
                    refine s_nil ⟨.inr hS27, ?_⟩
                    refine d_only 9 rfl (by kernel_rfl) ?_
                    refine s_callf (xs := [.const (.pointer none), .tmp 220, .tmp 221, .tmp 223, .tmp 225]) rfl rfl Tryd.func23 rfl (by kernel_rfl) rfl (climb0 (hG.keep hS27 (by simp)) (by have := hS27.size; omega) okx ((hHp.keep0 hS27).from_ 1 (by omega)) (by omega) (by omega) hin) ?_
                    rintro _ w279 ⟨rfl, X27_9⟩
                    replace hb23 := hb23.keep X27_9 (by simp)
                    have zs27_9 := X27_9.size
                    rw [hdf]
                    replace hS27 : Chg wd27 _ [] := hS27.trans X27_9
                    refine s_nil ⟨.inr hS27, ?_⟩
                    refine d_take 10 216 rfl (by kernel_rfl) rfl hS27 (fun wS hS => runs_move rfl) ?_
                    refine d_take 11 227 rfl (by kernel_rfl) rfl hS27 (fun wS hS => runs_extract rfl rfl) ?_
                    refine d_take 12 228 rfl (by kernel_rfl) rfl hS27 (fun wS hS => runs_extract rfl rfl) ?_
                    refine d_only 14 rfl (by kernel_rfl) ?_
                    refine s_storeAll ty28 rfl rfl rfl hb23 (by rw [natsC_length, (climb_ok x okx _ (p.drop 1) i n (Nat.le_refl _)).1]) rfl (natsC_one _ _) ?_
                    intro w2714 z27_14 h27_14 X27_14
                    replace hb23 := h27_14
                    replace hS27 : Chg wd27 _ [] := (hS27.trans X27_14).mono (by intro k hk hlt; simp at hk; omega)
                    refine s_nil ⟨.inr hS27, ?_⟩
                    refine d_take 15 24 rfl (by kernel_rfl) rfl hS27 (fun wS hS => runs_assign rfl) ?_
                    refine d_done (by kernel_rfl) ?_
                    replace hG := hG.keep hS27 (by simp)
                    replace hX : Chg w _ [] := (hX.trans hS27).mono (by intro k hk hlt; simp at hk ⊢ <;> first | omega | grind)
                    replace hB8 := hB8.keep hS27 (by simp)
                    replace hHp := hHp.keep0 hS27
                    replace hb7 := hb7.keep hS27 (by simp)
                    replace hb4 := hb4.keep hS27 (by simp)
                    replace hT := hT.keep hS27 (by simp)
                    have hzE := hS27.size
                    refine hK54 _ _ ?_
                    refine c_seqreg (fun K72 hK72 => ?_)
                    refine s_val rfl rfl (runs_move rfl) ?_
                    refine s_nil ?_
                    refine hK72 _ _ ?_
                    refine c_false rfl ?_
                    refine c_skip ?_
                    refine hK41 _ _ ?_
                    refine c_seqreg (fun K73 hK73 => ?_)
                    refine s_val rfl rfl (runs_move rfl) ?_
                    refine s_val rfl rfl (runs_move rfl) ?_
                    refine s_val rfl rfl (runs_index_slice (i) Tryd.underlying25 ty28 rfl rfl (by omega) (by omega)) ?_
                    refine s_val rfl rfl (runs_loadAgg ty28 rfl (hB8.rd.elem hx) (by rw [natsC_length, okx.1])) ?_
                    refine s_val rfl rfl (runs_move rfl) ?_
                    refine s_val rfl rfl (runs_len_slice Tryd.underlying25 rfl) ?_
                    refine s_val rfl rfl (runs_move rfl) ?_
                    refine s_callf (xs := [.const (.pointer none), .tmp 234, .const (.int .i64 (-1)), .tmp 236, .tmp 237]) rfl rfl Tryd.func23 rfl (by kernel_rfl) rfl (climb_bad _ _ (-1) n _ _ _ _ (.inl (by omega))) ?_
                    rintro _ w307 ⟨rfl, X30_7⟩
                    replace hG := hG.keep X30_7 (by simp)
                    replace hX : Chg w _ [] := (hX.trans X30_7).mono (by intro k hk hlt; simp at hk ⊢ <;> first | omega | grind)
                    replace hB8 := hB8.keep X30_7 (by simp)
                    replace hHp := hHp.keep0 X30_7
                    replace hb7 := hb7.keep X30_7 (by simp)
                    replace hb4 := hb4.keep X30_7 (by simp)
                    replace hT := hT.keep X30_7 (by simp)
                    replace hb23 := hb23.keep X30_7 (by simp)
                    have zs30_7 := X30_7.size
                    refine s_val rfl rfl (runs_move rfl) ?_
                    refine s_val rfl rfl (runs_extract rfl rfl) ?_
                    refine s_val rfl rfl (runs_extract rfl rfl) ?_
                    refine s_alloc ty28 rfl rfl ?_
                    intro b25 w3011a e30_11 z30_11 hb25 X30_11
                    have s30_11_hX := hX.size
                    have s30_11_hb7 := hb7.lt
                    have s30_11_hb4 := hb4.lt
                    have s30_11_hb23 := hb23.lt
                    replace hG := hG.keep X30_11 (by simp)
                    replace hX : Chg w _ [] := (hX.trans X30_11).mono (by intro k hk hlt; simp at hk ⊢ <;> first | omega | grind)
                    replace hB8 := hB8.keep X30_11 (by simp)
                    replace hHp := hHp.keep0 X30_11
                    replace hb7 := hb7.keep X30_11 (by simp)
                    replace hb4 := hb4.keep X30_11 (by simp)
                    replace hT := hT.keep X30_11 (by simp)
                    replace hb23 := hb23.keep X30_11 (by simp)
                    refine s_storeAll ty28 rfl rfl rfl hb25 (by rw [natsC_length, zero_ok.1]) rfl (natsC_one _ _) ?_
                    intro w3011s z30_12 h30_12 X30_12
                    replace hG := hG.keep X30_12 (by simp; omega)
                    replace hX : Chg w _ [] := (hX.trans X30_12).mono (by intro k hk hlt; simp at hk ⊢ <;> first | omega | grind)
                    replace hB8 := hB8.keep X30_12 (by simp; omega)
                    replace hHp := hHp.keep X30_12 (fun q hq => by have := hltp q hq; simp; omega)
                    replace hb7 := hb7.keep X30_12 (by simp; omega)
                    replace hb4 := hb4.keep X30_12 (by simp; omega)
                    replace hT := hT.keep X30_12 (by simp [Rg] <;> omega)
                    replace hb23 := hb23.keep X30_12 (by simp; omega)
                    replace hb25 := h30_12
                    refine s_val rfl rfl (runs_assign rfl) ?_
                    refine s_nil ?_
                    refine hK73 _ _ ?_
                    refine c_seqreg (fun K77 hK77 => ?_)
                    refine s_val rfl rfl (runs_move rfl) ?_
                    refine s_val rfl rfl (runs_move rfl) ?_
                    refine s_val rfl rfl (runs_index_slice (i) Tryd.underlying25 ty28 rfl rfl (by omega) (by omega)) ?_
                    refine s_val rfl rfl (runs_loadAgg ty28 rfl (hB8.rd.elem hx) (by rw [natsC_length, okx.1])) ?_
                    refine s_val rfl rfl (runs_move rfl) ?_
                    refine s_val rfl rfl (runs_len_slice Tryd.underlying25 rfl) ?_
                    refine s_val rfl rfl (runs_move rfl) ?_
                    refine s_val rfl rfl (runs_len_slice Tryd.underlying25 rfl) ?_
                    refine s_val rfl rfl (runs_move rfl) ?_
                    refine s_callf (xs := [.const (.pointer none), .tmp 245, .tmp 247, .tmp 249, .tmp 250]) rfl rfl Tryd.func23 rfl (by kernel_rfl) rfl (climb_bad _ _ (n : Int) n _ _ _ _ (.inr (by omega))) ?_
                    rintro _ w319 ⟨rfl, X31_9⟩
                    replace hG := hG.keep X31_9 (by simp)
                    replace hX : Chg w _ [] := (hX.trans X31_9).mono (by intro k hk hlt; simp at hk ⊢ <;> first | omega | grind)
                    replace hB8 := hB8.keep X31_9 (by simp)
                    replace hHp := hHp.keep0 X31_9
                    replace hb7 := hb7.keep X31_9 (by simp)
                    replace hb4 := hb4.keep X31_9 (by simp)
                    replace hT := hT.keep X31_9 (by simp)
                    replace hb23 := hb23.keep X31_9 (by simp)
                    replace hb25 := hb25.keep X31_9 (by simp)
                    have zs31_9 := X31_9.size
                    refine s_val rfl rfl (runs_move rfl) ?_
                    refine s_val rfl rfl (runs_extract rfl rfl) ?_
                    refine s_val rfl rfl (runs_extract rfl rfl) ?_
                    refine s_alloc ty28 rfl rfl ?_
                    intro b27 w3113a e31_13 z31_13 hb27 X31_13
                    have s31_13_hX := hX.size
                    have s31_13_hb7 := hb7.lt
                    have s31_13_hb4 := hb4.lt
                    have s31_13_hb23 := hb23.lt
                    have s31_13_hb25 := hb25.lt
                    replace hG := hG.keep X31_13 (by simp)
                    replace hX : Chg w _ [] := (hX.trans X31_13).mono (by intro k hk hlt; simp at hk ⊢ <;> first | omega | grind)
                    replace hB8 := hB8.keep X31_13 (by simp)
                    replace hHp := hHp.keep0 X31_13
                    replace hb7 := hb7.keep X31_13 (by simp)
                    replace hb4 := hb4.keep X31_13 (by simp)
                    replace hT := hT.keep X31_13 (by simp)
                    replace hb23 := hb23.keep X31_13 (by simp)
                    replace hb25 := hb25.keep X31_13 (by simp)
                    refine s_storeAll ty28 rfl rfl rfl hb27 (by rw [natsC_length, zero_ok.1]) rfl (natsC_one _ _) ?_
                    intro w3113s z31_14 h31_14 X31_14
                    replace hG := hG.keep X31_14 (by simp; omega)
                    replace hX : Chg w _ [] := (hX.trans X31_14).mono (by intro k hk hlt; simp at hk ⊢ <;> first | omega | grind)
                    replace hB8 := hB8.keep X31_14 (by simp; omega)
                    replace hHp := hHp.keep X31_14 (fun q hq => by have := hltp q hq; simp; omega)
                    replace hb7 := hb7.keep X31_14 (by simp; omega)
                    replace hb4 := hb4.keep X31_14 (by simp; omega)
                    replace hT := hT.keep X31_14 (by simp [Rg] <;> omega)
                    replace hb23 := hb23.keep X31_14 (by simp; omega)
                    replace hb25 := hb25.keep X31_14 (by simp; omega)
                    replace hb27 := h31_14
                    refine s_val rfl rfl (runs_assign rfl) ?_
                    refine s_nil ?_
                    refine hK77 _ _ ?_
                    cases wv
                    · refine c_seqreg (fun K81 hK81 => ?_)
                      refine s_val rfl rfl (runs_move rfl) ?_
                      refine s_val rfl rfl (runs_not rfl) ?_
                      refine s_val rfl rfl (runs_move rfl) ?_
                      refine s_val rfl rfl (runs_move rfl) ?_
                      refine s_val rfl rfl (runs_not rfl) ?_
                      refine s_val rfl rfl (runs_pickt rfl rfl) ?_
                      refine s_val rfl rfl (runs_move rfl) ?_
                      refine s_val rfl rfl (runs_move rfl) ?_
                      refine s_val rfl rfl (runs_not rfl) ?_
                      refine s_val rfl rfl (runs_move rfl) ?_
                      refine s_skip rfl rfl ?_
                      refine s_skip rfl rfl ?_
                      refine s_val rfl rfl (runs_pickt rfl rfl) ?_
                      refine s_val rfl rfl (runs_pickt rfl rfl) ?_
                      refine s_val rfl rfl (runs_assign rfl) ?_
                      refine s_nil ?_
                      refine hK81 _ _ ?_
                      refine c_ret ?_
                      refine hret _ _ ?_
                      exact ends1 (reads_tmp rfl) ⟨rfl, hX⟩
                    · refine c_seqreg (fun K81 hK81 => ?_)
                      refine s_val rfl rfl (runs_move rfl) ?_
                      refine s_val rfl rfl (runs_not rfl) ?_
                      refine s_val rfl rfl (runs_move rfl) ?_
                      refine s_val rfl rfl (runs_move rfl) ?_
                      refine s_val rfl rfl (runs_not rfl) ?_
                      refine s_val rfl rfl (runs_pickt rfl rfl) ?_
                      refine s_val rfl rfl (runs_move rfl) ?_
                      refine s_val rfl rfl (runs_move rfl) ?_
                      refine s_val rfl rfl (runs_not rfl) ?_
                      refine s_val rfl rfl (runs_move rfl) ?_
                      refine s_val rfl rfl (runs_move rfl) ?_
                      refine s_callf (xs := [.tmp 264]) rfl rfl Tryd.func20 rfl (by kernel_rfl) rfl (hT.clash hG (by omega) (fun x hx => by have := hLs x hx; omega)) ?_
                      rintro _ wcl ⟨bc, rfl, hbc, Xcl⟩
                      replace hG := hG.keep Xcl (by simp)
                      replace hX : Chg w _ [] := (hX.trans Xcl).mono (by intro k hk hlt; simp at hk ⊢ <;> first | omega | grind)
                      replace hB8 := hB8.keep Xcl (by simp)
                      replace hHp := hHp.keep0 Xcl
                      replace hb7 := hb7.keep Xcl (by simp)
                      replace hb4 := hb4.keep Xcl (by simp)
                      replace hT := hT.keep Xcl (by simp)
                      replace hb23 := hb23.keep Xcl (by simp)
                      replace hb25 := hb25.keep Xcl (by simp)
                      replace hb27 := hb27.keep Xcl (by simp)
                      have zs32_11 := Xcl.size
                      obtain rfl := hbc.2 (hcl rfl)
                      refine s_val rfl rfl (runs_pickf rfl rfl) ?_
                      refine s_val rfl rfl (runs_pickt rfl rfl) ?_
                      refine s_val rfl rfl (runs_assign rfl) ?_
                      refine s_nil ?_
                      refine hK81 _ _ ?_
                      refine c_ret ?_
                      refine hret _ _ ?_
                      exact ends1 (reads_tmp rfl) ⟨rfl, hX⟩
                rcases (show wv = true ∨ (wv = false ∧ y3 = Sp.root hs) ∨ (wv = false ∧ y3 ≠ Sp.root hs) by cases wv <;> by_cases h : y3 = Sp.root hs <;> simp [h]) with rfl | ⟨rfl, he⟩ | ⟨rfl, he⟩
                · refine c_reg ?_
                  refine s_val rfl rfl (runs_move rfl) ?_
                  refine s_val rfl rfl (runs_move rfl) ?_
                  refine s_skip rfl rfl ?_
                  refine s_skip rfl rfl ?_
                  refine s_skip rfl rfl ?_
                  refine s_val rfl rfl (runs_pickt rfl rfl) ?_
                  refine s_val rfl rfl (runs_assign rfl) ?_
                  refine s_nil ?_
                  have hzE := hX.size
                  exact hJ53 true _ (by
                    rw [hINV]
                    exact ⟨hG, hX, hB8, hHp, hb7, hb4, by omega, _, _, _, hT.set ls (fun x hx => .inl (by simp [hx])), (by simp; omega), (by
                      intro z hz
                      rcases List.mem_append.1 hz with hz | hz
                      · exact hLs z hz
                      · have := climbN_short x okx _ q i n (Nat.le_refl _) okq z hz; omega), (fun z hz => by simp [hLb z hz]), (fun _ => (hcl rfl).mono (fun z hz => by simp [hz]))⟩) _ ⟨rfl, rfl, rfl, rfl, rfl, rfl, rfl, rfl, trivial⟩
                · refine c_reg ?_
                  refine s_val rfl rfl (runs_move rfl) ?_
                  refine s_val rfl rfl (runs_move rfl) ?_
                  refine s_val rfl rfl (runs_loadAgg ty28 rfl hb21.at (by rw [natsC_length, oky3.1])) ?_
                  refine s_val rfl rfl (runs_loadAgg ty28 rfl hb7.at (by rw [natsC_length, hro])) ?_
                  refine s_val rfl rfl (runs_dt (runs_hv_eq rfl rfl oky3 hro') he) ?_
                  refine s_val rfl rfl (runs_pickf rfl rfl) ?_
                  refine s_val rfl rfl (runs_assign rfl) ?_
                  refine s_nil ?_
                  have hzE := hX.size
                  exact hJ53 true _ (by
                    rw [hINV]
                    exact ⟨hG, hX, hB8, hHp, hb7, hb4, by omega, _, _, _, hT.set ls (fun x hx => .inl (by simp [hx])), (by simp; omega), (by
                      intro z hz
                      rcases List.mem_append.1 hz with hz | hz
                      · exact hLs z hz
                      · have := climbN_short x okx _ q i n (Nat.le_refl _) okq z hz; omega), (fun z hz => by simp [hLb z hz]), (fun _ => by
                      have hc1 : Sp.climb x i n q = (Sp.root hs, true) := Prod.ext (by rw [← hy3]; exact he) hqf
                      rw [← hsl] at hc1
                      rcases climb_coll _ hs i q x (Nat.le_refl _) (by omega) hsok okx okq hc1 with ⟨_, h1⟩ | h1
                      · rw [← hp] at h1; exact absurd h1 hqne
                      · rw [hsl] at h1
                        exact h1.mono fun z hz => by
                          simp only [List.mem_append] at hz ⊢
                          rcases hz with hz | hz
                          · exact .inr hz
                          · exact .inl (hLb z (.inr hz)))⟩) _ ⟨rfl, rfl, rfl, rfl, rfl, rfl, rfl, rfl, trivial⟩
                · refine c_reg ?_
                  refine s_val rfl rfl (runs_move rfl) ?_
                  refine s_val rfl rfl (runs_move rfl) ?_
                  refine s_val rfl rfl (runs_loadAgg ty28 rfl hb21.at (by rw [natsC_length, oky3.1])) ?_
                  refine s_val rfl rfl (runs_loadAgg ty28 rfl hb7.at (by rw [natsC_length, hro])) ?_
                  refine s_val rfl rfl (runs_df (runs_hv_eq rfl rfl oky3 hro') he) ?_
                  refine s_val rfl rfl (runs_pickf rfl rfl) ?_
                  refine s_val rfl rfl (runs_assign rfl) ?_
                  refine s_nil ?_
                  have hzE := hX.size
                  exact hJ53 false _ (by
                    rw [hINV]
                    exact ⟨hG, hX, hB8, hHp, hb7, hb4, by omega, _, _, _, hT.set ls (fun x hx => .inl (by simp [hx])), (by simp; omega), (by
                      intro z hz
                      rcases List.mem_append.1 hz with hz | hz
                      · exact hLs z hz
                      · have := climbN_short x okx _ q i n (Nat.le_refl _) okq z hz; omega), (fun z hz => by simp [hLb z hz]), (by simp)⟩) _ ⟨rfl, rfl, rfl, rfl, rfl, rfl, rfl, rfl, trivial⟩
              · refine c_skip ?_
                refine hK41 _ _ ?_
                refine c_seqreg (fun K83 hK83 => ?_)
                refine s_val rfl rfl (runs_move rfl) ?_
                refine s_val rfl rfl (runs_move rfl) ?_
                refine s_val rfl rfl (runs_index_slice (i) Tryd.underlying25 ty28 rfl rfl (by omega) (by omega)) ?_
                refine s_val rfl rfl (runs_loadAgg ty28 rfl (hB8.rd.elem hx) (by rw [natsC_length, okx.1])) ?_
                refine s_val rfl rfl (runs_move rfl) ?_
                refine s_val rfl rfl (runs_len_slice Tryd.underlying25 rfl) ?_
                refine s_val rfl rfl (runs_move rfl) ?_
                refine s_callf (xs := [.const (.pointer none), .tmp 234, .const (.int .i64 (-1)), .tmp 236, .tmp 237]) rfl rfl Tryd.func23 rfl (by kernel_rfl) rfl (climb_bad _ _ (-1) n _ _ _ _ (.inl (by omega))) ?_
                rintro _ w307 ⟨rfl, X30_7⟩
                replace hG := hG.keep X30_7 (by simp)
                replace hX : Chg w _ [] := (hX.trans X30_7).mono (by intro k hk hlt; simp at hk ⊢ <;> first | omega | grind)
                replace hB8 := hB8.keep X30_7 (by simp)
                replace hHp := hHp.keep0 X30_7
                replace hb7 := hb7.keep X30_7 (by simp)
                replace hb4 := hb4.keep X30_7 (by simp)
                replace hT := hT.keep X30_7 (by simp)
                have zs30_7 := X30_7.size
                refine s_val rfl rfl (runs_move rfl) ?_
                refine s_val rfl rfl (runs_extract rfl rfl) ?_
                refine s_val rfl rfl (runs_extract rfl rfl) ?_
                refine s_alloc ty28 rfl rfl ?_
                intro b25 w3011a e30_11 z30_11 hb25 X30_11
                have s30_11_hX := hX.size
                have s30_11_hb7 := hb7.lt
                have s30_11_hb4 := hb4.lt
                replace hG := hG.keep X30_11 (by simp)
                replace hX : Chg w _ [] := (hX.trans X30_11).mono (by intro k hk hlt; simp at hk ⊢ <;> first | omega | grind)
                replace hB8 := hB8.keep X30_11 (by simp)
                replace hHp := hHp.keep0 X30_11
                replace hb7 := hb7.keep X30_11 (by simp)
                replace hb4 := hb4.keep X30_11 (by simp)
                replace hT := hT.keep X30_11 (by simp)
                refine s_storeAll ty28 rfl rfl rfl hb25 (by rw [natsC_length, zero_ok.1]) rfl (natsC_one _ _) ?_
                intro w3011s z30_12 h30_12 X30_12
                replace hG := hG.keep X30_12 (by simp; omega)
                replace hX : Chg w _ [] := (hX.trans X30_12).mono (by intro k hk hlt; simp at hk ⊢ <;> first | omega | grind)
                replace hB8 := hB8.keep X30_12 (by simp; omega)
                replace hHp := hHp.keep X30_12 (fun q hq => by have := hltp q hq; simp; omega)
                replace hb7 := hb7.keep X30_12 (by simp; omega)
                replace hb4 := hb4.keep X30_12 (by simp; omega)
                replace hT := hT.keep X30_12 (by simp [Rg] <;> omega)
                replace hb25 := h30_12
                refine s_val rfl rfl (runs_assign rfl) ?_
                refine s_nil ?_
                refine hK83 _ _ ?_
                refine c_seqreg (fun K87 hK87 => ?_)
                refine s_val rfl rfl (runs_move rfl) ?_
                refine s_val rfl rfl (runs_move rfl) ?_
                refine s_val rfl rfl (runs_index_slice (i) Tryd.underlying25 ty28 rfl rfl (by omega) (by omega)) ?_
                refine s_val rfl rfl (runs_loadAgg ty28 rfl (hB8.rd.elem hx) (by rw [natsC_length, okx.1])) ?_
                refine s_val rfl rfl (runs_move rfl) ?_
                refine s_val rfl rfl (runs_len_slice Tryd.underlying25 rfl) ?_
                refine s_val rfl rfl (runs_move rfl) ?_
                refine s_val rfl rfl (runs_len_slice Tryd.underlying25 rfl) ?_
                refine s_val rfl rfl (runs_move rfl) ?_
                refine s_callf (xs := [.const (.pointer none), .tmp 245, .tmp 247, .tmp 249, .tmp 250]) rfl rfl Tryd.func23 rfl (by kernel_rfl) rfl (climb_bad _ _ (n : Int) n _ _ _ _ (.inr (by omega))) ?_
                rintro _ w319 ⟨rfl, X31_9⟩
                replace hG := hG.keep X31_9 (by simp)
                replace hX : Chg w _ [] := (hX.trans X31_9).mono (by intro k hk hlt; simp at hk ⊢ <;> first | omega | grind)
                replace hB8 := hB8.keep X31_9 (by simp)
                replace hHp := hHp.keep0 X31_9
                replace hb7 := hb7.keep X31_9 (by simp)
                replace hb4 := hb4.keep X31_9 (by simp)
                replace hT := hT.keep X31_9 (by simp)
                replace hb25 := hb25.keep X31_9 (by simp)
                have zs31_9 := X31_9.size
                refine s_val rfl rfl (runs_move rfl) ?_
                refine s_val rfl rfl (runs_extract rfl rfl) ?_
                refine s_val rfl rfl (runs_extract rfl rfl) ?_
                refine s_alloc ty28 rfl rfl ?_
                intro b27 w3113a e31_13 z31_13 hb27 X31_13
                have s31_13_hX := hX.size
                have s31_13_hb7 := hb7.lt
                have s31_13_hb4 := hb4.lt
                have s31_13_hb25 := hb25.lt
                replace hG := hG.keep X31_13 (by simp)
                replace hX : Chg w _ [] := (hX.trans X31_13).mono (by intro k hk hlt; simp at hk ⊢ <;> first | omega | grind)
                replace hB8 := hB8.keep X31_13 (by simp)
                replace hHp := hHp.keep0 X31_13
                replace hb7 := hb7.keep X31_13 (by simp)
                replace hb4 := hb4.keep X31_13 (by simp)
                replace hT := hT.keep X31_13 (by simp)
                replace hb25 := hb25.keep X31_13 (by simp)
                refine s_storeAll ty28 rfl rfl rfl hb27 (by rw [natsC_length, zero_ok.1]) rfl (natsC_one _ _) ?_
                intro w3113s z31_14 h31_14 X31_14
                replace hG := hG.keep X31_14 (by simp; omega)
                replace hX : Chg w _ [] := (hX.trans X31_14).mono (by intro k hk hlt; simp at hk ⊢ <;> first | omega | grind)
                replace hB8 := hB8.keep X31_14 (by simp; omega)
                replace hHp := hHp.keep X31_14 (fun q hq => by have := hltp q hq; simp; omega)
                replace hb7 := hb7.keep X31_14 (by simp; omega)
                replace hb4 := hb4.keep X31_14 (by simp; omega)
                replace hT := hT.keep X31_14 (by simp [Rg] <;> omega)
                replace hb25 := hb25.keep X31_14 (by simp; omega)
                replace hb27 := h31_14
                refine s_val rfl rfl (runs_assign rfl) ?_
                refine s_nil ?_
                refine hK87 _ _ ?_
                cases wv
                · refine c_seqreg (fun K91 hK91 => ?_)
                  refine s_val rfl rfl (runs_move rfl) ?_
                  refine s_val rfl rfl (runs_not rfl) ?_
                  refine s_val rfl rfl (runs_move rfl) ?_
                  refine s_val rfl rfl (runs_move rfl) ?_
                  refine s_val rfl rfl (runs_not rfl) ?_
                  refine s_val rfl rfl (runs_pickt rfl rfl) ?_
                  refine s_val rfl rfl (runs_move rfl) ?_
                  refine s_val rfl rfl (runs_move rfl) ?_
                  refine s_val rfl rfl (runs_not rfl) ?_
                  refine s_val rfl rfl (runs_move rfl) ?_
                  refine s_skip rfl rfl ?_
                  refine s_skip rfl rfl ?_
                  refine s_val rfl rfl (runs_pickt rfl rfl) ?_
                  refine s_val rfl rfl (runs_pickt rfl rfl) ?_
                  refine s_val rfl rfl (runs_assign rfl) ?_
                  refine s_nil ?_
                  refine hK91 _ _ ?_
                  refine c_ret ?_
                  refine hret _ _ ?_
                  exact ends1 (reads_tmp rfl) ⟨rfl, hX⟩
                · refine c_seqreg (fun K91 hK91 => ?_)
                  refine s_val rfl rfl (runs_move rfl) ?_
                  refine s_val rfl rfl (runs_not rfl) ?_
                  refine s_val rfl rfl (runs_move rfl) ?_
                  refine s_val rfl rfl (runs_move rfl) ?_
                  refine s_val rfl rfl (runs_not rfl) ?_
                  refine s_val rfl rfl (runs_pickt rfl rfl) ?_
                  refine s_val rfl rfl (runs_move rfl) ?_
                  refine s_val rfl rfl (runs_move rfl) ?_
                  refine s_val rfl rfl (runs_not rfl) ?_
                  refine s_val rfl rfl (runs_move rfl) ?_
                  refine s_val rfl rfl (runs_move rfl) ?_
                  refine s_callf (xs := [.tmp 264]) rfl rfl Tryd.func20 rfl (by kernel_rfl) rfl (hT.clash hG (by omega) (fun x hx => by have := hLs x hx; omega)) ?_
                  rintro _ wcl ⟨bc, rfl, hbc, Xcl⟩
                  replace hG := hG.keep Xcl (by simp)
                  replace hX : Chg w _ [] := (hX.trans Xcl).mono (by intro k hk hlt; simp at hk ⊢ <;> first | omega | grind)
                  replace hB8 := hB8.keep Xcl (by simp)
                  replace hHp := hHp.keep0 Xcl
                  replace hb7 := hb7.keep Xcl (by simp)
                  replace hb4 := hb4.keep Xcl (by simp)
                  replace hT := hT.keep Xcl (by simp)
                  replace hb25 := hb25.keep Xcl (by simp)
                  replace hb27 := hb27.keep Xcl (by simp)
                  have zs32_11 := Xcl.size
                  obtain rfl := hbc.2 (hcl rfl)
                  refine s_val rfl rfl (runs_pickf rfl rfl) ?_
                  refine s_val rfl rfl (runs_pickt rfl rfl) ?_
                  refine s_val rfl rfl (runs_assign rfl) ?_
                  refine s_nil ?_
                  refine hK91 _ _ ?_
                  refine c_ret ?_
                  refine hret _ _ ?_
                  exact ends1 (reads_tmp rfl) ⟨rfl, hX⟩
            rcases (show wv = true ∨ (wv = false ∧ ok2 = false) ∨ (wv = false ∧ ok2 = true ∧ y2 ≠ Sp.root hs) ∨ (wv = false ∧ ok2 = true ∧ y2 = Sp.root hs ∧ lj ≠ li) ∨ (wv = false ∧ ok2 = true ∧ y2 = Sp.root hs ∧ lj = li) by cases wv <;> cases ok2 <;> by_cases h : y2 = Sp.root hs <;> by_cases h2 : lj = li <;> simp [h, h2]) with rfl | ⟨rfl, rfl⟩ | ⟨rfl, rfl, he⟩ | ⟨rfl, rfl, he, hne⟩ | ⟨rfl, rfl, he, hne⟩
            · refine c_drawX [] ([]) (by kernel_rfl) ?_
              intro wd19 Xd19 hS19
              replace hG := hG.keep Xd19 (by simp)
              replace hX : Chg w _ [] := (hX.trans Xd19).mono (by intro k hk hlt; simp at hk ⊢ <;> first | omega | grind)
              replace hB8 := hB8.keep Xd19 (by simp)
              replace hHp := hHp.keep0 Xd19
              replace hb7 := hb7.keep Xd19 (by simp)
              replace hb4 := hb4.keep Xd19 (by simp)
              replace hT := hT.keep Xd19 (by simp)
              replace hb19 := hb19.keep Xd19 (by simp)
              have zd19 := Xd19.size
              refine d_take 0 152 rfl (by kernel_rfl) rfl hS19 (fun wS hS => runs_move rfl) ?_
              refine d_take 1 153 rfl (by kernel_rfl) rfl hS19 (fun wS hS => runs_move rfl) ?_
              refine d_takeskip 2 154 rfl (by kernel_rfl) rfl hS19 ?_
              refine d_takeskip 3 155 rfl (by kernel_rfl) rfl hS19 ?_
              refine d_takeskip 4 156 rfl (by kernel_rfl) rfl hS19 ?_
              refine d_takeskip 5 157 rfl (by kernel_rfl) rfl hS19 ?_
              refine d_takeskip 6 158 rfl (by kernel_rfl) rfl hS19 ?_
              refine d_takeskip 7 159 rfl (by kernel_rfl) rfl hS19 ?_
              refine d_takeskip 8 160 rfl (by kernel_rfl) rfl hS19 ?_
              refine d_takeskip 9 161 rfl (by kernel_rfl) rfl hS19 ?_
              refine d_takeskip 10 162 rfl (by kernel_rfl) rfl hS19 ?_
              refine d_takeskip 11 163 rfl (by kernel_rfl) rfl hS19 ?_
              refine d_takeskip 12 164 rfl (by kernel_rfl) rfl hS19 ?_
              refine d_takeskip 13 165 rfl (by kernel_rfl) rfl hS19 ?_
              refine d_takeskip 14 166 rfl (by kernel_rfl) rfl hS19 ?_
              refine d_takeskip 15 167 rfl (by kernel_rfl) rfl hS19 ?_
              refine d_takeskip 16 168 rfl (by kernel_rfl) rfl hS19 ?_
              refine d_takeskip 17 169 rfl (by kernel_rfl) rfl hS19 ?_
              refine d_takeskip 18 170 rfl (by kernel_rfl) rfl hS19 ?_
              refine d_takeskip 19 171 rfl (by kernel_rfl) rfl hS19 ?_
              refine d_takeskip 20 172 rfl (by kernel_rfl) rfl hS19 ?_
              refine d_take 21 173 rfl (by kernel_rfl) rfl hS19 (fun wS hS => runs_pickt rfl rfl) ?_
              refine d_take 22 15 rfl (by kernel_rfl) rfl hS19 (fun wS hS => runs_assign rfl) ?_
              refine d_done (by kernel_rfl) ?_
              replace hG := hG.keep hS19 (by simp)
              replace hX : Chg w _ [] := (hX.trans hS19).mono (by intro k hk hlt; simp at hk ⊢ <;> first | omega | grind)
              replace hB8 := hB8.keep hS19 (by simp)
              replace hHp := hHp.keep0 hS19
              replace hb7 := hb7.keep hS19 (by simp)
              replace hb4 := hb4.keep hS19 (by simp)
              replace hT := hT.keep hS19 (by simp)
              replace hb19 := hb19.keep hS19 (by simp)
              have hzE := hX.size
              exact hJ40 true _ (by
                rw [hINV]
                exact ⟨hG, hX, hB8, hHp, hb7, hb4, by omega, _, _, _, hT.set ls (fun x hx => .inl (by simpa using hx)), (by simp; omega), (by
                  intro z hz
                  rcases List.mem_append.1 hz with hz | hz
                  · exact hLs z hz
                  · have := climbN_short x okx _ p j n (Nat.le_refl _) okp z hz; omega), (fun z hz => by simp [hLb z hz]), (fun _ => (hcl rfl).mono (fun z hz => by simp [hz]))⟩) _ ⟨rfl, rfl, rfl, rfl, rfl, rfl, rfl, rfl, trivial⟩
            · refine c_drawX [] ([]) (by kernel_rfl) ?_
              intro wd19 Xd19 hS19
              replace hG := hG.keep Xd19 (by simp)
              replace hX : Chg w _ [] := (hX.trans Xd19).mono (by intro k hk hlt; simp at hk ⊢ <;> first | omega | grind)
              replace hB8 := hB8.keep Xd19 (by simp)
              replace hHp := hHp.keep0 Xd19
              replace hb7 := hb7.keep Xd19 (by simp)
              replace hb4 := hb4.keep Xd19 (by simp)
              replace hT := hT.keep Xd19 (by simp)
              replace hb19 := hb19.keep Xd19 (by simp)
              have zd19 := Xd19.size
              refine d_take 0 152 rfl (by kernel_rfl) rfl hS19 (fun wS hS => runs_move rfl) ?_
              refine d_take 1 153 rfl (by kernel_rfl) rfl hS19 (fun wS hS => runs_move rfl) ?_
              refine d_take 2 154 rfl (by kernel_rfl) rfl hS19 (fun wS hS => runs_move rfl) ?_
              refine d_take 3 155 rfl (by kernel_rfl) rfl hS19 (fun wS hS => runs_move rfl) ?_
              refine d_takeskip 4 156 rfl (by kernel_rfl) rfl hS19 ?_
              refine d_takeskip 5 157 rfl (by kernel_rfl) rfl hS19 ?_
              refine d_takeskip 6 158 rfl (by kernel_rfl) rfl hS19 ?_
              refine d_take 7 159 rfl (by kernel_rfl) rfl hS19 (fun wS hS => runs_pickf rfl rfl) ?_
              refine d_take 8 160 rfl (by kernel_rfl) rfl hS19 (fun wS hS => runs_move rfl) ?_
              refine d_takeskip 9 161 rfl (by kernel_rfl) rfl hS19 ?_
              refine d_takeskip 10 162 rfl (by kernel_rfl) rfl hS19 ?_
              refine d_takeskip 11 163 rfl (by kernel_rfl) rfl hS19 ?_
              refine d_takeskip 12 164 rfl (by kernel_rfl) rfl hS19 ?_
              refine d_takeskip 13 165 rfl (by kernel_rfl) rfl hS19 ?_
              refine d_takeskip 14 166 rfl (by kernel_rfl) rfl hS19 ?_
              refine d_takeskip 15 167 rfl (by kernel_rfl) rfl hS19 ?_
              refine d_takeskip 16 168 rfl (by kernel_rfl) rfl hS19 ?_
              refine d_takeskip 17 169 rfl (by kernel_rfl) rfl hS19 ?_
              refine d_takeskip 18 170 rfl (by kernel_rfl) rfl hS19 ?_
              refine d_takeskip 19 171 rfl (by kernel_rfl) rfl hS19 ?_
              refine d_take 20 172 rfl (by kernel_rfl) rfl hS19 (fun wS hS => runs_pickf rfl rfl) ?_
              refine d_take 21 173 rfl (by kernel_rfl) rfl hS19 (fun wS hS => runs_pickf rfl rfl) ?_
              refine d_take 22 15 rfl (by kernel_rfl) rfl hS19 (fun wS hS => runs_assign rfl) ?_
              refine d_done (by kernel_rfl) ?_
              replace hG := hG.keep hS19 (by simp)
              replace hX : Chg w _ [] := (hX.trans hS19).mono (by intro k hk hlt; simp at hk ⊢ <;> first | omega | grind)
              replace hB8 := hB8.keep hS19 (by simp)
              replace hHp := hHp.keep0 hS19
              replace hb7 := hb7.keep hS19 (by simp)
              replace hb4 := hb4.keep hS19 (by simp)
              replace hT := hT.keep hS19 (by simp)
              replace hb19 := hb19.keep hS19 (by simp)
              have hzE := hX.size
              exact hJ40 false _ (by
                rw [hINV]
                exact ⟨hG, hX, hB8, hHp, hb7, hb4, by omega, _, _, _, hT.set ls (fun x hx => .inl (by simpa using hx)), (by simp; omega), (by
                  intro z hz
                  rcases List.mem_append.1 hz with hz | hz
                  · exact hLs z hz
                  · have := climbN_short x okx _ p j n (Nat.le_refl _) okp z hz; omega), (fun z hz => by simp [hLb z hz]), (by simp)⟩) _ ⟨rfl, rfl, rfl, rfl, rfl, rfl, rfl, rfl, trivial⟩
            · refine c_drawX [] ([]) (by kernel_rfl) ?_
              intro wd19 Xd19 hS19
              replace hG := hG.keep Xd19 (by simp)
              replace hX : Chg w _ [] := (hX.trans Xd19).mono (by intro k hk hlt; simp at hk ⊢ <;> first | omega | grind)
              replace hB8 := hB8.keep Xd19 (by simp)
              replace hHp := hHp.keep0 Xd19
              replace hb7 := hb7.keep Xd19 (by simp)
              replace hb4 := hb4.keep Xd19 (by simp)
              replace hT := hT.keep Xd19 (by simp)
              replace hb19 := hb19.keep Xd19 (by simp)
              have zd19 := Xd19.size
              refine d_take 0 152 rfl (by kernel_rfl) rfl hS19 (fun wS hS => runs_move rfl) ?_
              refine d_take 1 153 rfl (by kernel_rfl) rfl hS19 (fun wS hS => runs_move rfl) ?_
              refine d_take 2 154 rfl (by kernel_rfl) rfl hS19 (fun wS hS => runs_move rfl) ?_
              refine d_take 3 155 rfl (by kernel_rfl) rfl hS19 (fun wS hS => runs_move rfl) ?_
              refine d_take 4 156 rfl (by kernel_rfl) rfl hS19 (fun wS hS => runs_loadAgg ty28 rfl ((hb19.keep hS (by simp)).at) (by rw [natsC_length, oky2.1])) ?_
              refine d_take 5 157 rfl (by kernel_rfl) rfl hS19 (fun wS hS => runs_loadAgg ty28 rfl ((hb7.keep hS (by simp)).at) (by rw [natsC_length, hro])) ?_
              refine d_take 6 158 rfl (by kernel_rfl) rfl hS19 (fun wS hS => runs_df (runs_hv_eq rfl rfl oky2 hro') he) ?_
              refine d_take 7 159 rfl (by kernel_rfl) rfl hS19 (fun wS hS => runs_pickt rfl rfl) ?_
              refine d_take 8 160 rfl (by kernel_rfl) rfl hS19 (fun wS hS => runs_move rfl) ?_
              refine d_takeskip 9 161 rfl (by kernel_rfl) rfl hS19 ?_
              refine d_takeskip 10 162 rfl (by kernel_rfl) rfl hS19 ?_
              refine d_takeskip 11 163 rfl (by kernel_rfl) rfl hS19 ?_
              refine d_takeskip 12 164 rfl (by kernel_rfl) rfl hS19 ?_
              refine d_takeskip 13 165 rfl (by kernel_rfl) rfl hS19 ?_
              refine d_takeskip 14 166 rfl (by kernel_rfl) rfl hS19 ?_
              refine d_takeskip 15 167 rfl (by kernel_rfl) rfl hS19 ?_
              refine d_takeskip 16 168 rfl (by kernel_rfl) rfl hS19 ?_
              refine d_takeskip 17 169 rfl (by kernel_rfl) rfl hS19 ?_
              refine d_takeskip 18 170 rfl (by kernel_rfl) rfl hS19 ?_
              refine d_takeskip 19 171 rfl (by kernel_rfl) rfl hS19 ?_
              refine d_take 20 172 rfl (by kernel_rfl) rfl hS19 (fun wS hS => runs_pickf rfl rfl) ?_
              refine d_take 21 173 rfl (by kernel_rfl) rfl hS19 (fun wS hS => runs_pickf rfl rfl) ?_
              refine d_take 22 15 rfl (by kernel_rfl) rfl hS19 (fun wS hS => runs_assign rfl) ?_
              refine d_done (by kernel_rfl) ?_
              replace hG := hG.keep hS19 (by simp)
              replace hX : Chg w _ [] := (hX.trans hS19).mono (by intro k hk hlt; simp at hk ⊢ <;> first | omega | grind)
              replace hB8 := hB8.keep hS19 (by simp)
              replace hHp := hHp.keep0 hS19
              replace hb7 := hb7.keep hS19 (by simp)
              replace hb4 := hb4.keep hS19 (by simp)
              replace hT := hT.keep hS19 (by simp)
              replace hb19 := hb19.keep hS19 (by simp)
              have hzE := hX.size
              exact hJ40 false _ (by
                rw [hINV]
                exact ⟨hG, hX, hB8, hHp, hb7, hb4, by omega, _, _, _, hT.set ls (fun x hx => .inl (by simpa using hx)), (by simp; omega), (by
                  intro z hz
                  rcases List.mem_append.1 hz with hz | hz
                  · exact hLs z hz
                  · have := climbN_short x okx _ p j n (Nat.le_refl _) okp z hz; omega), (fun z hz => by simp [hLb z hz]), (by simp)⟩) _ ⟨rfl, rfl, rfl, rfl, rfl, rfl, rfl, rfl, trivial⟩
            · refine c_drawX [] ([]) (by kernel_rfl) ?_
              intro wd19 Xd19 hS19
              replace hG := hG.keep Xd19 (by simp)
              replace hX : Chg w _ [] := (hX.trans Xd19).mono (by intro k hk hlt; simp at hk ⊢ <;> first | omega | grind)
              replace hB8 := hB8.keep Xd19 (by simp)
              replace hHp := hHp.keep0 Xd19
              replace hb7 := hb7.keep Xd19 (by simp)
              replace hb4 := hb4.keep Xd19 (by simp)
              replace hT := hT.keep Xd19 (by simp)
              replace hb19 := hb19.keep Xd19 (by simp)
              have zd19 := Xd19.size
              refine d_take 0 152 rfl (by kernel_rfl) rfl hS19 (fun wS hS => runs_move rfl) ?_
              refine d_take 1 153 rfl (by kernel_rfl) rfl hS19 (fun wS hS => runs_move rfl) ?_
              refine d_take 2 154 rfl (by kernel_rfl) rfl hS19 (fun wS hS => runs_move rfl) ?_
              refine d_take 3 155 rfl (by kernel_rfl) rfl hS19 (fun wS hS => runs_move rfl) ?_
              refine d_take 4 156 rfl (by kernel_rfl) rfl hS19 (fun wS hS => runs_loadAgg ty28 rfl ((hb19.keep hS (by simp)).at) (by rw [natsC_length, oky2.1])) ?_
              refine d_take 5 157 rfl (by kernel_rfl) rfl hS19 (fun wS hS => runs_loadAgg ty28 rfl ((hb7.keep hS (by simp)).at) (by rw [natsC_length, hro])) ?_
              refine d_take 6 158 rfl (by kernel_rfl) rfl hS19 (fun wS hS => runs_dt (runs_hv_eq rfl rfl oky2 hro') he) ?_
              refine d_take 7 159 rfl (by kernel_rfl) rfl hS19 (fun wS hS => runs_pickt rfl rfl) ?_
              refine d_take 8 160 rfl (by kernel_rfl) rfl hS19 (fun wS hS => runs_move rfl) ?_
              refine d_take 9 161 rfl (by kernel_rfl) rfl hS19 (fun wS hS => runs_move rfl) ?_
              refine d_take 10 162 rfl (by kernel_rfl) rfl hS19 (fun wS hS => runs_move rfl) ?_
              refine d_take 11 163 rfl (by kernel_rfl) rfl hS19 (fun wS hS => runs_index_slice (j) Tryd.underlying22 ty32 rfl rfl (by omega) (by omega)) ?_
              refine d_take 12 164 rfl (by kernel_rfl) rfl hS19 (fun wS hS => runs_load1 ty32 rfl ((hvs0.grow (hX.trans hS)).elem1 hvj)) ?_
              refine d_take 13 165 rfl (by kernel_rfl) rfl hS19 (fun wS hS => runs_str rfl (hrbj0.grow (hX.trans hS)) hbjl) ?_
              refine d_take 14 166 rfl (by kernel_rfl) rfl hS19 (fun wS hS => runs_move rfl) ?_
              refine d_take 15 167 rfl (by kernel_rfl) rfl hS19 (fun wS hS => runs_move rfl) ?_
              refine d_take 16 168 rfl (by kernel_rfl) rfl hS19 (fun wS hS => runs_index_slice (i) Tryd.underlying22 ty32 rfl rfl (by omega) (by omega)) ?_
              refine d_take 17 169 rfl (by kernel_rfl) rfl hS19 (fun wS hS => runs_load1 ty32 rfl ((hvs0.grow (hX.trans hS)).elem1 hvi)) ?_
              refine d_take 18 170 rfl (by kernel_rfl) rfl hS19 (fun wS hS => runs_str rfl (hrbi0.grow (hX.trans hS)) hbil) ?_
              refine d_take 19 171 rfl (by kernel_rfl) rfl hS19 (fun wS hS => runs_dt (runs_strne rfl rfl) (fun e => hne (bstr_inj hbjl hbil e))) ?_
              refine d_take 20 172 rfl (by kernel_rfl) rfl hS19 (fun wS hS => runs_pickt rfl rfl) ?_
              refine d_take 21 173 rfl (by kernel_rfl) rfl hS19 (fun wS hS => runs_pickf rfl rfl) ?_
              refine d_take 22 15 rfl (by kernel_rfl) rfl hS19 (fun wS hS => runs_assign rfl) ?_
              refine d_done (by kernel_rfl) ?_
              replace hG := hG.keep hS19 (by simp)
              replace hX : Chg w _ [] := (hX.trans hS19).mono (by intro k hk hlt; simp at hk ⊢ <;> first | omega | grind)
              replace hB8 := hB8.keep hS19 (by simp)
              replace hHp := hHp.keep0 hS19
              replace hb7 := hb7.keep hS19 (by simp)
              replace hb4 := hb4.keep hS19 (by simp)
              replace hT := hT.keep hS19 (by simp)
              replace hb19 := hb19.keep hS19 (by simp)
              have hzE := hX.size
              exact hJ40 true _ (by
                rw [hINV]
                exact ⟨hG, hX, hB8, hHp, hb7, hb4, by omega, _, _, _, hT.set ls (fun x hx => .inl (by simpa using hx)), (by simp; omega), (by
                  intro z hz
                  rcases List.mem_append.1 hz with hz | hz
                  · exact hLs z hz
                  · have := climbN_short x okx _ p j n (Nat.le_refl _) okp z hz; omega), (fun z hz => by simp [hLb z hz]), (fun _ => by
                  have hc1 : Sp.climb x j n p = (Sp.root hs, true) := Prod.ext (by rw [← hy2]; exact he) hok2.symm
                  rw [← hsl] at hc1
                  rcases climb_coll _ hs j p x (Nat.le_refl _) (by omega) hsok okx okp hc1 with ⟨h1, _⟩ | h1
                  · rw [hxj] at h1
                    exact leaf_coll (show Sp.leaf lj = Sp.leaf li by rw [← hxl, ← hxjl]; exact Option.some.inj h1) hne (by simp [hLb (0 :: lj) (.inl (List.mem_map.2 ⟨lj, List.mem_of_getElem? hlj, rfl⟩))]) (by simp [hLb (0 :: li) (.inl (List.mem_map.2 ⟨li, List.mem_of_getElem? hli, rfl⟩))])
                  · rw [hsl] at h1
                    exact h1.mono fun z hz => by
                      simp only [List.mem_append] at hz ⊢
                      rcases hz with hz | hz
                      · exact .inr hz
                      · exact .inl (hLb z (.inr hz)))⟩) _ ⟨rfl, rfl, rfl, rfl, rfl, rfl, rfl, rfl, trivial⟩
            · refine c_drawX [] ([]) (by kernel_rfl) ?_
              intro wd19 Xd19 hS19
              replace hG := hG.keep Xd19 (by simp)
              replace hX : Chg w _ [] := (hX.trans Xd19).mono (by intro k hk hlt; simp at hk ⊢ <;> first | omega | grind)
              replace hB8 := hB8.keep Xd19 (by simp)
              replace hHp := hHp.keep0 Xd19
              replace hb7 := hb7.keep Xd19 (by simp)
              replace hb4 := hb4.keep Xd19 (by simp)
              replace hT := hT.keep Xd19 (by simp)
              replace hb19 := hb19.keep Xd19 (by simp)
              have zd19 := Xd19.size
              refine d_take 0 152 rfl (by kernel_rfl) rfl hS19 (fun wS hS => runs_move rfl) ?_
              refine d_take 1 153 rfl (by kernel_rfl) rfl hS19 (fun wS hS => runs_move rfl) ?_
              refine d_take 2 154 rfl (by kernel_rfl) rfl hS19 (fun wS hS => runs_move rfl) ?_
              refine d_take 3 155 rfl (by kernel_rfl) rfl hS19 (fun wS hS => runs_move rfl) ?_
              refine d_take 4 156 rfl (by kernel_rfl) rfl hS19 (fun wS hS => runs_loadAgg ty28 rfl ((hb19.keep hS (by simp)).at) (by rw [natsC_length, oky2.1])) ?_
              refine d_take 5 157 rfl (by kernel_rfl) rfl hS19 (fun wS hS => runs_loadAgg ty28 rfl ((hb7.keep hS (by simp)).at) (by rw [natsC_length, hro])) ?_
              refine d_take 6 158 rfl (by kernel_rfl) rfl hS19 (fun wS hS => runs_dt (runs_hv_eq rfl rfl oky2 hro') he) ?_
              refine d_take 7 159 rfl (by kernel_rfl) rfl hS19 (fun wS hS => runs_pickt rfl rfl) ?_
              refine d_take 8 160 rfl (by kernel_rfl) rfl hS19 (fun wS hS => runs_move rfl) ?_
              refine d_take 9 161 rfl (by kernel_rfl) rfl hS19 (fun wS hS => runs_move rfl) ?_
              refine d_take 10 162 rfl (by kernel_rfl) rfl hS19 (fun wS hS => runs_move rfl) ?_
              refine d_take 11 163 rfl (by kernel_rfl) rfl hS19 (fun wS hS => runs_index_slice (j) Tryd.underlying22 ty32 rfl rfl (by omega) (by omega)) ?_
              refine d_take 12 164 rfl (by kernel_rfl) rfl hS19 (fun wS hS => runs_load1 ty32 rfl ((hvs0.grow (hX.trans hS)).elem1 hvj)) ?_
              refine d_take 13 165 rfl (by kernel_rfl) rfl hS19 (fun wS hS => runs_str rfl (hrbj0.grow (hX.trans hS)) hbjl) ?_
              refine d_take 14 166 rfl (by kernel_rfl) rfl hS19 (fun wS hS => runs_move rfl) ?_
              refine d_take 15 167 rfl (by kernel_rfl) rfl hS19 (fun wS hS => runs_move rfl) ?_
              refine d_take 16 168 rfl (by kernel_rfl) rfl hS19 (fun wS hS => runs_index_slice (i) Tryd.underlying22 ty32 rfl rfl (by omega) (by omega)) ?_
              refine d_take 17 169 rfl (by kernel_rfl) rfl hS19 (fun wS hS => runs_load1 ty32 rfl ((hvs0.grow (hX.trans hS)).elem1 hvi)) ?_
              refine d_take 18 170 rfl (by kernel_rfl) rfl hS19 (fun wS hS => runs_str rfl (hrbi0.grow (hX.trans hS)) hbil) ?_
              refine d_take 19 171 rfl (by kernel_rfl) rfl hS19 (fun wS hS => runs_df (runs_strne rfl rfl) (fun h => h (by rw [hne]))) ?_
              refine d_take 20 172 rfl (by kernel_rfl) rfl hS19 (fun wS hS => runs_pickt rfl rfl) ?_
              refine d_take 21 173 rfl (by kernel_rfl) rfl hS19 (fun wS hS => runs_pickf rfl rfl) ?_
              refine d_take 22 15 rfl (by kernel_rfl) rfl hS19 (fun wS hS => runs_assign rfl) ?_
              refine d_done (by kernel_rfl) ?_
              replace hG := hG.keep hS19 (by simp)
              replace hX : Chg w _ [] := (hX.trans hS19).mono (by intro k hk hlt; simp at hk ⊢ <;> first | omega | grind)
              replace hB8 := hB8.keep hS19 (by simp)
              replace hHp := hHp.keep0 hS19
              replace hb7 := hb7.keep hS19 (by simp)
              replace hb4 := hb4.keep hS19 (by simp)
              replace hT := hT.keep hS19 (by simp)
              replace hb19 := hb19.keep hS19 (by simp)
              have hzE := hX.size
              exact hJ40 false _ (by
                rw [hINV]
                exact ⟨hG, hX, hB8, hHp, hb7, hb4, by omega, _, _, _, hT.set ls (fun x hx => .inl (by simpa using hx)), (by simp; omega), (by
                  intro z hz
                  rcases List.mem_append.1 hz with hz | hz
                  · exact hLs z hz
                  · have := climbN_short x okx _ p j n (Nat.le_refl _) okp z hz; omega), (fun z hz => by simp [hLb z hz]), (by simp)⟩) _ ⟨rfl, rfl, rfl, rfl, rfl, rfl, rfl, rfl, trivial⟩
          refine c_drawX [] ([]) (by kernel_rfl) ?_
          intro wd14 Xd14 hS14
          replace hG := hG.keep Xd14 (by simp)
          replace hX : Chg w _ [] := (hX.trans Xd14).mono (by intro k hk hlt; simp at hk ⊢ <;> first | omega | grind)
          replace hB8 := hB8.keep Xd14 (by simp)
          replace hHp := hHp.keep0 Xd14
          replace hb7 := hb7.keep Xd14 (by simp)
          replace hb4 := hb4.keep Xd14 (by simp)
          replace hT := hT.keep Xd14 (by simp)
          have zd14 := Xd14.size
          refine d_take 0 112 rfl (by kernel_rfl) rfl hS14 (fun wS hS => runs_move rfl) ?_
          refine d_take 1 113 rfl (by kernel_rfl) rfl hS14 (fun wS hS => runs_move rfl) ?_
          refine d_take 2 114 rfl (by kernel_rfl) rfl hS14 (fun wS hS => runs_index_slice (i) Tryd.underlying25 ty28 rfl rfl (by omega) (by omega)) ?_
          refine d_take 3 115 rfl (by kernel_rfl) rfl hS14 (fun wS hS => runs_loadAgg ty28 rfl ((hB8.keep hS (by simp)).rd.elem hx) (by rw [natsC_length, okx.1])) ?_
          refine d_take 4 116 rfl (by kernel_rfl) rfl hS14 (fun wS hS => runs_move rfl) ?_
          refine d_take 5 117 rfl (by kernel_rfl) rfl hS14 (fun wS hS => runs_move rfl) ?_
          refine d_take 6 118 rfl (by kernel_rfl) rfl hS14 (fun wS hS => runs_len_slice Tryd.underlying25 rfl) ?_
          refine d_take 7 119 rfl (by kernel_rfl) rfl hS14 (fun wS hS => runs_move rfl) ?_
          refine d_take 9 121 rfl (by kernel_rfl) rfl hS14 (fun wS hS => runs_loadAgg ty28 rfl ((hb7.keep hS (by simp)).at) (by rw [natsC_length, hro])) ?_
          refine d_three 8 10 16 rfl rfl rfl (by kernel_rfl) ?_ ?_ ?_
          · refine s_append Tryd.underlying25 ty28 rfl (by decide) rfl rfl rfl (World.ownsRow_nil _ wd14.heap.size _ _) rfl (hHp.keep0 hS14).rd (natsC_one _ _) (by simp only [maxLen]; omega) (by omega) (by have := hS14.size; omega) ?_
            intro v148 w148 H14_8 X14_8 F14_8
            replace X14_8 : Chg _ _ [] := X14_8
            have hown148 := H14_8
            have hvlo : ∀ k, v148.ownBlock = some k → _ ≤ k := fun k hk => (F14_8 k hk).resolve_left (by simp [Value.ownBlock])
            have hvhi : ∀ k, v148.ownBlock = some k → k < w148.heap.size := fun k hk => (H14_8.lt k hk).2
            have hz148 := X14_8.size
            replace hS14 : Chg wd14 _ [] := hS14.trans X14_8
            refine s_nil ⟨.inr hS14, ?_⟩
            refine d_two 10 16 rfl rfl (by kernel_rfl) ?_ ?_
            · refine s_lit (xs := [.tmp 121]) Tryd.underlying25 ty28 rfl rfl rfl rfl rfl (hv_sz (l := [Sp.root hs]) (by simpa using hro')) (by decide) (by decide) ?_
              intro b1410 w1410 e14_10 z14_10 hb1410 X14_10
              replace H14_8 := own_keep H14_8 X14_10 (by simp)
              replace hS14 : Chg wd14 _ [] := hS14.trans X14_10
              refine s_nil ⟨.inr hS14, ?_⟩
              refine d_two 11 16 rfl rfl (by kernel_rfl) ?_ ?_
              · refine s_append Tryd.underlying25 ty28 rfl (by decide) rfl rfl rfl H14_8 rfl (hs_lit [Sp.root hs] hb1410 (by simpa using hro') rfl).rd (natsC_one _ _) (by simp only [maxLen]; omega) (by omega) (by have := hS14.size; omega) ?_
                intro v1411 w1411 H14_11 X14_11 F14_11
                have H14_8 := H14_11
                obtain ⟨q, hq⟩ : ∃ q, q = p ++ [Sp.root hs] := ⟨_, rfl⟩
                have okq : ∀ x ∈ q, HOk x := fun y hy => by rw [hq] at hy; rcases List.mem_append.1 hy with hy | hy; exact okp y hy; simp at hy; subst hy; exact hro'
                have hql : q.length = p.length + 1 := by rw [hq]; simp
                obtain ⟨aq, cq, rfl, hHq, hobq⟩ := own_hs (hs := q) (n := p.length + 1) (by rw [hq, List.flatten_append, natsC_append]; simpa using H14_8) okq hql
                have hqf : (Sp.climb x i n q).2 = false := by
                  cases hc : (Sp.climb x i n q).2 with
                  | false => rfl
                  | true => have := Sp.climb_fits x x i n q p hc (by rw [hcp]); omega
                replace hS14 : Chg wd14 _ [] := (hS14.trans X14_11).mono (by intro k hk hlt; simp at hk; have := (hown148.lt k hk).1; omega)
                refine s_nil ⟨.inr hS14, ?_⟩
                refine d_two 12 16 rfl rfl (by kernel_rfl) ?_ ?_
                · refine s_callf (xs := [.const (.pointer none), .tmp 115, .tmp 116, .tmp 118, .tmp 123]) rfl rfl Tryd.func23 rfl (by kernel_rfl) rfl (climb0 (hG.keep hS14 (by simp)) (by have := hS14.size; omega) okx hHq (by omega) (by omega) hin) ?_
                  rintro _ w1412 ⟨rfl, X14_12⟩
                  replace hHq := hHq.keep0 X14_12
                  have zs14_12 := X14_12.size
                  rw [hqf]
                  replace hS14 : Chg wd14 _ [] := hS14.trans X14_12
                  refine s_nil ⟨.inr hS14, ?_⟩
                  refine d_take 13 111 rfl (by kernel_rfl) rfl hS14 (fun wS hS => runs_move rfl) ?_
                  refine d_take 14 125 rfl (by kernel_rfl) rfl hS14 (fun wS hS => runs_extract rfl rfl) ?_
                  refine d_take 15 126 rfl (by kernel_rfl) rfl hS14 (fun wS hS => runs_extract rfl rfl) ?_
                  refine d_only 16 rfl (by kernel_rfl) ?_
                  refine s_alloc ty28 rfl rfl ?_
                  intro b16 w1416 e14_16 z14_16 hb16 X14_16
                  replace hHq := hHq.keep0 X14_16
                  have hb16lo : wd14.heap.size ≤ b16 := by have := hS14.size; omega
                  replace hS14 : Chg wd14 _ [] := hS14.trans X14_16
                  refine s_nil ⟨.inr hS14, ?_⟩
                  refine d_only 17 rfl (by kernel_rfl) ?_
                  refine s_storeAll ty28 rfl rfl rfl hb16 (by rw [natsC_length, (climb_ok x okx _ q i n (Nat.le_refl _)).1]) rfl (natsC_one _ _) ?_
                  intro w1417 z14_17 h14_17 X14_17
                  replace hb16 := h14_17
                  replace hS14 : Chg wd14 _ [] := (hS14.trans X14_17).mono (by intro k hk hlt; simp at hk; omega)
                  refine s_nil ⟨.inr hS14, ?_⟩
                  refine d_take 18 17 rfl (by kernel_rfl) rfl hS14 (fun wS hS => runs_assign rfl) ?_
                  refine d_done (by kernel_rfl) ?_
                  replace hG := hG.keep hS14 (by simp)
                  replace hX : Chg w _ [] := (hX.trans hS14).mono (by intro k hk hlt; simp at hk ⊢ <;> first | omega | grind)
                  replace hB8 := hB8.keep hS14 (by simp)
                  replace hHp := hHp.keep0 hS14
                  replace hb7 := hb7.keep hS14 (by simp)
                  replace hb4 := hb4.keep hS14 (by simp)
                  replace hT := hT.keep hS14 (by simp)
                  exact hJ33 wv _ (by rw [hINV]; exact ⟨hG, hX, hB8, hHp, hb7, hb4, by have := hS14.size; omega, _, _, _, hT, hLl, hLs, hLb, hcl⟩) _ ⟨rfl, rfl, rfl, rfl, rfl, rfl, rfl, rfl, rfl, trivial⟩
                · refine s_alloc ty28 rfl rfl ?_
                  intro b16 w1416 e14_16 z14_16 hb16 X14_16
                  replace hHq := hHq.keep0 X14_16
                  have hb16lo : wd14.heap.size ≤ b16 := by have := hS14.size; omega
                  replace hS14 : Chg wd14 _ [] := hS14.trans X14_16
                  refine s_nil ⟨.inr hS14, ?_⟩
                  refine d_only 12 rfl (by kernel_rfl) ?_
                  refine s_callf (xs := [.const (.pointer none), .tmp 115, .tmp 116, .tmp 118, .tmp 123]) rfl rfl Tryd.func23 rfl (by kernel_rfl) rfl (climb0 (hG.keep hS14 (by simp)) (by have := hS14.size; omega) okx hHq (by omega) (by omega) hin) ?_
                  rintro _ w1412 ⟨rfl, X14_12⟩
                  replace hHq := hHq.keep0 X14_12
                  replace hb16 := hb16.keep X14_12 (by simp)
                  have zs14_12 := X14_12.size
                  rw [hqf]
                  replace hS14 : Chg wd14 _ [] := hS14.trans X14_12
                  refine s_nil ⟨.inr hS14, ?_⟩
                  refine d_take 13 111 rfl (by kernel_rfl) rfl hS14 (fun wS hS => runs_move rfl) ?_
                  refine d_take 14 125 rfl (by kernel_rfl) rfl hS14 (fun wS hS => runs_extract rfl rfl) ?_
                  refine d_take 15 126 rfl (by kernel_rfl) rfl hS14 (fun wS hS => runs_extract rfl rfl) ?_
                  refine d_only 17 rfl (by kernel_rfl) ?_
                  refine s_storeAll ty28 rfl rfl rfl hb16 (by rw [natsC_length, (climb_ok x okx _ q i n (Nat.le_refl _)).1]) rfl (natsC_one _ _) ?_
                  intro w1417 z14_17 h14_17 X14_17
                  replace hb16 := h14_17
                  replace hS14 : Chg wd14 _ [] := (hS14.trans X14_17).mono (by intro k hk hlt; simp at hk; omega)
                  refine s_nil ⟨.inr hS14, ?_⟩
                  refine d_take 18 17 rfl (by kernel_rfl) rfl hS14 (fun wS hS => runs_assign rfl) ?_
                  refine d_done (by kernel_rfl) ?_
                  replace hG := hG.keep hS14 (by simp)
                  replace hX : Chg w _ [] := (hX.trans hS14).mono (by intro k hk hlt; simp at hk ⊢ <;> first | omega | grind)
                  replace hB8 := hB8.keep hS14 (by simp)
                  replace hHp := hHp.keep0 hS14
                  replace hb7 := hb7.keep hS14 (by simp)
                  replace hb4 := hb4.keep hS14 (by simp)
                  replace hT := hT.keep hS14 (by simp)
                  exact hJ33 wv _ (by rw [hINV]; exact ⟨hG, hX, hB8, hHp, hb7, hb4, by have := hS14.size; omega, _, _, _, hT, hLl, hLs, hLb, hcl⟩) _ ⟨rfl, rfl, rfl, rfl, rfl, rfl, rfl, rfl, rfl, trivial⟩
              · refine s_alloc ty28 rfl rfl ?_
                intro b16 w1416 e14_16 z14_16 hb16 X14_16
                have s14_16_hb1410 := hb1410.lt
                replace H14_8 := own_keep H14_8 X14_16 (by simp)
                replace hb1410 := hb1410.keep X14_16 (by simp)
                have hb16lo : wd14.heap.size ≤ b16 := by have := hS14.size; omega
                replace hS14 : Chg wd14 _ [] := hS14.trans X14_16
                refine s_nil ⟨.inr hS14, ?_⟩
                refine d_only 11 rfl (by kernel_rfl) ?_
                refine s_append Tryd.underlying25 ty28 rfl (by decide) rfl rfl rfl H14_8 rfl (hs_lit [Sp.root hs] hb1410 (by simpa using hro') rfl).rd (natsC_one _ _) (by simp only [maxLen]; omega) (by omega) (by have := hS14.size; omega) ?_
                intro v1411 w1411 H14_11 X14_11 F14_11
                replace hb16 := hb16.keep X14_11 (fun hm => by have h1 := hvlo _ (by simpa using hm); have h2 := hvhi _ (by simpa using hm); omega)
                have H14_8 := H14_11
                obtain ⟨q, hq⟩ : ∃ q, q = p ++ [Sp.root hs] := ⟨_, rfl⟩
                have okq : ∀ x ∈ q, HOk x := fun y hy => by rw [hq] at hy; rcases List.mem_append.1 hy with hy | hy; exact okp y hy; simp at hy; subst hy; exact hro'
                have hql : q.length = p.length + 1 := by rw [hq]; simp
                obtain ⟨aq, cq, rfl, hHq, hobq⟩ := own_hs (hs := q) (n := p.length + 1) (by rw [hq, List.flatten_append, natsC_append]; simpa using H14_8) okq hql
                have hqf : (Sp.climb x i n q).2 = false := by
                  cases hc : (Sp.climb x i n q).2 with
                  | false => rfl
                  | true => have := Sp.climb_fits x x i n q p hc (by rw [hcp]); omega
                replace hS14 : Chg wd14 _ [] := (hS14.trans X14_11).mono (by intro k hk hlt; simp at hk; have := (hown148.lt k hk).1; omega)
                refine s_nil ⟨.inr hS14, ?_⟩
                refine d_only 12 rfl (by kernel_rfl) ?_
                refine s_callf (xs := [.const (.pointer none), .tmp 115, .tmp 116, .tmp 118, .tmp 123]) rfl rfl Tryd.func23 rfl (by kernel_rfl) rfl (climb0 (hG.keep hS14 (by simp)) (by have := hS14.size; omega) okx hHq (by omega) (by omega) hin) ?_
                rintro _ w1412 ⟨rfl, X14_12⟩
                replace hb16 := hb16.keep X14_12 (by simp)
                replace hHq := hHq.keep0 X14_12
                have zs14_12 := X14_12.size
                rw [hqf]
                replace hS14 : Chg wd14 _ [] := hS14.trans X14_12
                refine s_nil ⟨.inr hS14, ?_⟩
                refine d_take 13 111 rfl (by kernel_rfl) rfl hS14 (fun wS hS => runs_move rfl) ?_
                refine d_take 14 125 rfl (by kernel_rfl) rfl hS14 (fun wS hS => runs_extract rfl rfl) ?_
                refine d_take 15 126 rfl (by kernel_rfl) rfl hS14 (fun wS hS => runs_extract rfl rfl) ?_
                refine d_only 17 rfl (by kernel_rfl) ?_
                refine s_storeAll ty28 rfl rfl rfl hb16 (by rw [natsC_length, (climb_ok x okx _ q i n (Nat.le_refl _)).1]) rfl (natsC_one _ _) ?_
                intro w1417 z14_17 h14_17 X14_17
                replace hb16 := h14_17
                replace hS14 : Chg wd14 _ [] := (hS14.trans X14_17).mono (by intro k hk hlt; simp at hk; omega)
                refine s_nil ⟨.inr hS14, ?_⟩
                refine d_take 18 17 rfl (by kernel_rfl) rfl hS14 (fun wS hS => runs_assign rfl) ?_
                refine d_done (by kernel_rfl) ?_
                replace hG := hG.keep hS14 (by simp)
                replace hX : Chg w _ [] := (hX.trans hS14).mono (by intro k hk hlt; simp at hk ⊢ <;> first | omega | grind)
                replace hB8 := hB8.keep hS14 (by simp)
                replace hHp := hHp.keep0 hS14
                replace hb7 := hb7.keep hS14 (by simp)
                replace hb4 := hb4.keep hS14 (by simp)
                replace hT := hT.keep hS14 (by simp)
                exact hJ33 wv _ (by rw [hINV]; exact ⟨hG, hX, hB8, hHp, hb7, hb4, by have := hS14.size; omega, _, _, _, hT, hLl, hLs, hLb, hcl⟩) _ ⟨rfl, rfl, rfl, rfl, rfl, rfl, rfl, rfl, rfl, trivial⟩
            · refine s_alloc ty28 rfl rfl ?_
              intro b16 w1416 e14_16 z14_16 hb16 X14_16
              replace H14_8 := own_keep H14_8 X14_16 (by simp)
              have hb16lo : wd14.heap.size ≤ b16 := by have := hS14.size; omega
              replace hS14 : Chg wd14 _ [] := hS14.trans X14_16
              refine s_nil ⟨.inr hS14, ?_⟩
              refine d_only 10 rfl (by kernel_rfl) ?_
              refine s_lit (xs := [.tmp 121]) Tryd.underlying25 ty28 rfl rfl rfl rfl rfl (hv_sz (l := [Sp.root hs]) (by simpa using hro')) (by decide) (by decide) ?_
              intro b1410 w1410 e14_10 z14_10 hb1410 X14_10
              have s14_10_hb16 := hb16.lt
              replace H14_8 := own_keep H14_8 X14_10 (by simp)
              replace hb16 := hb16.keep X14_10 (by simp)
              replace hS14 : Chg wd14 _ [] := hS14.trans X14_10
              refine s_nil ⟨.inr hS14, ?_⟩
              refine d_only 11 rfl (by kernel_rfl) ?_
              refine s_append Tryd.underlying25 ty28 rfl (by decide) rfl rfl rfl H14_8 rfl (hs_lit [Sp.root hs] hb1410 (by simpa using hro') rfl).rd (natsC_one _ _) (by simp only [maxLen]; omega) (by omega) (by have := hS14.size; omega) ?_
              intro v1411 w1411 H14_11 X14_11 F14_11
              replace hb16 := hb16.keep X14_11 (fun hm => by have h1 := hvlo _ (by simpa using hm); have h2 := hvhi _ (by simpa using hm); omega)
              have H14_8 := H14_11
              obtain ⟨q, hq⟩ : ∃ q, q = p ++ [Sp.root hs] := ⟨_, rfl⟩
              have okq : ∀ x ∈ q, HOk x := fun y hy => by rw [hq] at hy; rcases List.mem_append.1 hy with hy | hy; exact okp y hy; simp at hy; subst hy; exact hro'
              have hql : q.length = p.length + 1 := by rw [hq]; simp
              obtain ⟨aq, cq, rfl, hHq, hobq⟩ := own_hs (hs := q) (n := p.length + 1) (by rw [hq, List.flatten_append, natsC_append]; simpa using H14_8) okq hql
              have hqf : (Sp.climb x i n q).2 = false := by
                cases hc : (Sp.climb x i n q).2 with
                | false => rfl
                | true => have := Sp.climb_fits x x i n q p hc (by rw [hcp]); omega
              replace hS14 : Chg wd14 _ [] := (hS14.trans X14_11).mono (by intro k hk hlt; simp at hk; have := (hown148.lt k hk).1; omega)
              refine s_nil ⟨.inr hS14, ?_⟩
              refine d_only 12 rfl (by kernel_rfl) ?_
              refine s_callf (xs := [.const (.pointer none), .tmp 115, .tmp 116, .tmp 118, .tmp 123]) rfl rfl Tryd.func23 rfl (by kernel_rfl) rfl (climb0 (hG.keep hS14 (by simp)) (by have := hS14.size; omega) okx hHq (by omega) (by omega) hin) ?_
              rintro _ w1412 ⟨rfl, X14_12⟩
              replace hb16 := hb16.keep X14_12 (by simp)
              replace hHq := hHq.keep0 X14_12
              have zs14_12 := X14_12.size
              rw [hqf]
              replace hS14 : Chg wd14 _ [] := hS14.trans X14_12
              refine s_nil ⟨.inr hS14, ?_⟩
              refine d_take 13 111 rfl (by kernel_rfl) rfl hS14 (fun wS hS => runs_move rfl) ?_
              refine d_take 14 125 rfl (by kernel_rfl) rfl hS14 (fun wS hS => runs_extract rfl rfl) ?_
              refine d_take 15 126 rfl (by kernel_rfl) rfl hS14 (fun wS hS => runs_extract rfl rfl) ?_
              refine d_only 17 rfl (by kernel_rfl) ?_
              refine s_storeAll ty28 rfl rfl rfl hb16 (by rw [natsC_length, (climb_ok x okx _ q i n (Nat.le_refl _)).1]) rfl (natsC_one _ _) ?_
              intro w1417 z14_17 h14_17 X14_17
              replace hb16 := h14_17
              replace hS14 : Chg wd14 _ [] := (hS14.trans X14_17).mono (by intro k hk hlt; simp at hk; omega)
              refine s_nil ⟨.inr hS14, ?_⟩
              refine d_take 18 17 rfl (by kernel_rfl) rfl hS14 (fun wS hS => runs_assign rfl) ?_
              refine d_done (by kernel_rfl) ?_
              replace hG := hG.keep hS14 (by simp)
              replace hX : Chg w _ [] := (hX.trans hS14).mono (by intro k hk hlt; simp at hk ⊢ <;> first | omega | grind)
              replace hB8 := hB8.keep hS14 (by simp)
              replace hHp := hHp.keep0 hS14
              replace hb7 := hb7.keep hS14 (by simp)
              replace hb4 := hb4.keep hS14 (by simp)
              replace hT := hT.keep hS14 (by simp)
              exact hJ33 wv _ (by rw [hINV]; exact ⟨hG, hX, hB8, hHp, hb7, hb4, by have := hS14.size; omega, _, _, _, hT, hLl, hLs, hLb, hcl⟩) _ ⟨rfl, rfl, rfl, rfl, rfl, rfl, rfl, rfl, rfl, trivial⟩
          · refine s_lit (xs := [.tmp 121]) Tryd.underlying25 ty28 rfl rfl rfl rfl rfl (hv_sz (l := [Sp.root hs]) (by simpa using hro')) (by decide) (by decide) ?_
            intro b1410 w1410 e14_10 z14_10 hb1410 X14_10
            replace hS14 : Chg wd14 _ [] := hS14.trans X14_10
            refine s_nil ⟨.inr hS14, ?_⟩
            refine d_two 8 16 rfl rfl (by kernel_rfl) ?_ ?_
            · refine s_append Tryd.underlying25 ty28 rfl (by decide) rfl rfl rfl (World.ownsRow_nil _ wd14.heap.size _ _) rfl (hHp.keep0 hS14).rd (natsC_one _ _) (by simp only [maxLen]; omega) (by omega) (by have := hS14.size; omega) ?_
              intro v148 w148 H14_8 X14_8 F14_8
              replace X14_8 : Chg _ _ [] := X14_8
              replace hb1410 := hb1410.keep X14_8 (by simp)
              have hown148 := H14_8
              have hvlo : ∀ k, v148.ownBlock = some k → _ ≤ k := fun k hk => (F14_8 k hk).resolve_left (by simp [Value.ownBlock])
              have hvhi : ∀ k, v148.ownBlock = some k → k < w148.heap.size := fun k hk => (H14_8.lt k hk).2
              have hz148 := X14_8.size
              replace hS14 : Chg wd14 _ [] := hS14.trans X14_8
              refine s_nil ⟨.inr hS14, ?_⟩
              refine d_two 11 16 rfl rfl (by kernel_rfl) ?_ ?_
              · refine s_append Tryd.underlying25 ty28 rfl (by decide) rfl rfl rfl H14_8 rfl (hs_lit [Sp.root hs] hb1410 (by simpa using hro') rfl).rd (natsC_one _ _) (by simp only [maxLen]; omega) (by omega) (by have := hS14.size; omega) ?_
                intro v1411 w1411 H14_11 X14_11 F14_11
                have H14_8 := H14_11
                obtain ⟨q, hq⟩ : ∃ q, q = p ++ [Sp.root hs] := ⟨_, rfl⟩
                have okq : ∀ x ∈ q, HOk x := fun y hy => by rw [hq] at hy; rcases List.mem_append.1 hy with hy | hy; exact okp y hy; simp at hy; subst hy; exact hro'
                have hql : q.length = p.length + 1 := by rw [hq]; simp
                obtain ⟨aq, cq, rfl, hHq, hobq⟩ := own_hs (hs := q) (n := p.length + 1) (by rw [hq, List.flatten_append, natsC_append]; simpa using H14_8) okq hql
                have hqf : (Sp.climb x i n q).2 = false := by
                  cases hc : (Sp.climb x i n q).2 with
                  | false => rfl
                  | true => have := Sp.climb_fits x x i n q p hc (by rw [hcp]); omega
                replace hS14 : Chg wd14 _ [] := (hS14.trans X14_11).mono (by intro k hk hlt; simp at hk; have := (hown148.lt k hk).1; omega)
                refine s_nil ⟨.inr hS14, ?_⟩
                refine d_two 12 16 rfl rfl (by kernel_rfl) ?_ ?_
                · refine s_callf (xs := [.const (.pointer none), .tmp 115, .tmp 116, .tmp 118, .tmp 123]) rfl rfl Tryd.func23 rfl (by kernel_rfl) rfl (climb0 (hG.keep hS14 (by simp)) (by have := hS14.size; omega) okx hHq (by omega) (by omega) hin) ?_
                  rintro _ w1412 ⟨rfl, X14_12⟩
                  replace hHq := hHq.keep0 X14_12
                  have zs14_12 := X14_12.size
                  rw [hqf]
                  replace hS14 : Chg wd14 _ [] := hS14.trans X14_12
                  refine s_nil ⟨.inr hS14, ?_⟩
                  refine d_take 13 111 rfl (by kernel_rfl) rfl hS14 (fun wS hS => runs_move rfl) ?_
                  refine d_take 14 125 rfl (by kernel_rfl) rfl hS14 (fun wS hS => runs_extract rfl rfl) ?_
                  refine d_take 15 126 rfl (by kernel_rfl) rfl hS14 (fun wS hS => runs_extract rfl rfl) ?_
                  refine d_only 16 rfl (by kernel_rfl) ?_
                  refine s_alloc ty28 rfl rfl ?_
                  intro b16 w1416 e14_16 z14_16 hb16 X14_16
                  replace hHq := hHq.keep0 X14_16
                  have hb16lo : wd14.heap.size ≤ b16 := by have := hS14.size; omega
                  replace hS14 : Chg wd14 _ [] := hS14.trans X14_16
                  refine s_nil ⟨.inr hS14, ?_⟩
                  refine d_only 17 rfl (by kernel_rfl) ?_
                  refine s_storeAll ty28 rfl rfl rfl hb16 (by rw [natsC_length, (climb_ok x okx _ q i n (Nat.le_refl _)).1]) rfl (natsC_one _ _) ?_
                  intro w1417 z14_17 h14_17 X14_17
                  replace hb16 := h14_17
                  replace hS14 : Chg wd14 _ [] := (hS14.trans X14_17).mono (by intro k hk hlt; simp at hk; omega)
                  refine s_nil ⟨.inr hS14, ?_⟩
                  refine d_take 18 17 rfl (by kernel_rfl) rfl hS14 (fun wS hS => runs_assign rfl) ?_
                  refine d_done (by kernel_rfl) ?_
                  replace hG := hG.keep hS14 (by simp)
                  replace hX : Chg w _ [] := (hX.trans hS14).mono (by intro k hk hlt; simp at hk ⊢ <;> first | omega | grind)
                  replace hB8 := hB8.keep hS14 (by simp)
                  replace hHp := hHp.keep0 hS14
                  replace hb7 := hb7.keep hS14 (by simp)
                  replace hb4 := hb4.keep hS14 (by simp)
                  replace hT := hT.keep hS14 (by simp)
                  exact hJ33 wv _ (by rw [hINV]; exact ⟨hG, hX, hB8, hHp, hb7, hb4, by have := hS14.size; omega, _, _, _, hT, hLl, hLs, hLb, hcl⟩) _ ⟨rfl, rfl, rfl, rfl, rfl, rfl, rfl, rfl, rfl, trivial⟩
                · refine s_alloc ty28 rfl rfl ?_
                  intro b16 w1416 e14_16 z14_16 hb16 X14_16
                  replace hHq := hHq.keep0 X14_16
                  have hb16lo : wd14.heap.size ≤ b16 := by have := hS14.size; omega
                  replace hS14 : Chg wd14 _ [] := hS14.trans X14_16
                  refine s_nil ⟨.inr hS14, ?_⟩
                  refine d_only 12 rfl (by kernel_rfl) ?_
                  refine s_callf (xs := [.const (.pointer none), .tmp 115, .tmp 116, .tmp 118, .tmp 123]) rfl rfl Tryd.func23 rfl (by kernel_rfl) rfl (climb0 (hG.keep hS14 (by simp)) (by have := hS14.size; omega) okx hHq (by omega) (by omega) hin) ?_
                  rintro _ w1412 ⟨rfl, X14_12⟩
                  replace hHq := hHq.keep0 X14_12
                  replace hb16 := hb16.keep X14_12 (by simp)
                  have zs14_12 := X14_12.size
                  rw [hqf]
                  replace hS14 : Chg wd14 _ [] := hS14.trans X14_12
                  refine s_nil ⟨.inr hS14, ?_⟩
                  refine d_take 13 111 rfl (by kernel_rfl) rfl hS14 (fun wS hS => runs_move rfl) ?_
                  refine d_take 14 125 rfl (by kernel_rfl) rfl hS14 (fun wS hS => runs_extract rfl rfl) ?_
                  refine d_take 15 126 rfl (by kernel_rfl) rfl hS14 (fun wS hS => runs_extract rfl rfl) ?_
                  refine d_only 17 rfl (by kernel_rfl) ?_
                  refine s_storeAll ty28 rfl rfl rfl hb16 (by rw [natsC_length, (climb_ok x okx _ q i n (Nat.le_refl _)).1]) rfl (natsC_one _ _) ?_
                  intro w1417 z14_17 h14_17 X14_17
                  replace hb16 := h14_17
                  replace hS14 : Chg wd14 _ [] := (hS14.trans X14_17).mono (by intro k hk hlt; simp at hk; omega)
                  refine s_nil ⟨.inr hS14, ?_⟩
                  refine d_take 18 17 rfl (by kernel_rfl) rfl hS14 (fun wS hS => runs_assign rfl) ?_
                  refine d_done (by kernel_rfl) ?_
                  replace hG := hG.keep hS14 (by simp)
                  replace hX : Chg w _ [] := (hX.trans hS14).mono (by intro k hk hlt; simp at hk ⊢ <;> first | omega | grind)
                  replace hB8 := hB8.keep hS14 (by simp)
                  replace hHp := hHp.keep0 hS14
                  replace hb7 := hb7.keep hS14 (by simp)
                  replace hb4 := hb4.keep hS14 (by simp)
                  replace hT := hT.keep hS14 (by simp)
                  exact hJ33 wv _ (by rw [hINV]; exact ⟨hG, hX, hB8, hHp, hb7, hb4, by have := hS14.size; omega, _, _, _, hT, hLl, hLs, hLb, hcl⟩) _ ⟨rfl, rfl, rfl, rfl, rfl, rfl, rfl, rfl, rfl, trivial⟩
              · refine s_alloc ty28 rfl rfl ?_
                intro b16 w1416 e14_16 z14_16 hb16 X14_16
                have s14_16_hb1410 := hb1410.lt
                replace hb1410 := hb1410.keep X14_16 (by simp)
                replace H14_8 := own_keep H14_8 X14_16 (by simp)
                have hb16lo : wd14.heap.size ≤ b16 := by have := hS14.size; omega
                replace hS14 : Chg wd14 _ [] := hS14.trans X14_16
                refine s_nil ⟨.inr hS14, ?_⟩
                refine d_only 11 rfl (by kernel_rfl) ?_
                refine s_append Tryd.underlying25 ty28 rfl (by decide) rfl rfl rfl H14_8 rfl (hs_lit [Sp.root hs] hb1410 (by simpa using hro') rfl).rd (natsC_one _ _) (by simp only [maxLen]; omega) (by omega) (by have := hS14.size; omega) ?_
                intro v1411 w1411 H14_11 X14_11 F14_11
                replace hb16 := hb16.keep X14_11 (fun hm => by have h1 := hvlo _ (by simpa using hm); have h2 := hvhi _ (by simpa using hm); omega)
                have H14_8 := H14_11
                obtain ⟨q, hq⟩ : ∃ q, q = p ++ [Sp.root hs] := ⟨_, rfl⟩
                have okq : ∀ x ∈ q, HOk x := fun y hy => by rw [hq] at hy; rcases List.mem_append.1 hy with hy | hy; exact okp y hy; simp at hy; subst hy; exact hro'
                have hql : q.length = p.length + 1 := by rw [hq]; simp
                obtain ⟨aq, cq, rfl, hHq, hobq⟩ := own_hs (hs := q) (n := p.length + 1) (by rw [hq, List.flatten_append, natsC_append]; simpa using H14_8) okq hql
                have hqf : (Sp.climb x i n q).2 = false := by
                  cases hc : (Sp.climb x i n q).2 with
                  | false => rfl
                  | true => have := Sp.climb_fits x x i n q p hc (by rw [hcp]); omega
                replace hS14 : Chg wd14 _ [] := (hS14.trans X14_11).mono (by intro k hk hlt; simp at hk; have := (hown148.lt k hk).1; omega)
                refine s_nil ⟨.inr hS14, ?_⟩
                refine d_only 12 rfl (by kernel_rfl) ?_
                refine s_callf (xs := [.const (.pointer none), .tmp 115, .tmp 116, .tmp 118, .tmp 123]) rfl rfl Tryd.func23 rfl (by kernel_rfl) rfl (climb0 (hG.keep hS14 (by simp)) (by have := hS14.size; omega) okx hHq (by omega) (by omega) hin) ?_
                rintro _ w1412 ⟨rfl, X14_12⟩
                replace hb16 := hb16.keep X14_12 (by simp)
                replace hHq := hHq.keep0 X14_12
                have zs14_12 := X14_12.size
                rw [hqf]
                replace hS14 : Chg wd14 _ [] := hS14.trans X14_12
                refine s_nil ⟨.inr hS14, ?_⟩
                refine d_take 13 111 rfl (by kernel_rfl) rfl hS14 (fun wS hS => runs_move rfl) ?_
                refine d_take 14 125 rfl (by kernel_rfl) rfl hS14 (fun wS hS => runs_extract rfl rfl) ?_
                refine d_take 15 126 rfl (by kernel_rfl) rfl hS14 (fun wS hS => runs_extract rfl rfl) ?_
                refine d_only 17 rfl (by kernel_rfl) ?_
                refine s_storeAll ty28 rfl rfl rfl hb16 (by rw [natsC_length, (climb_ok x okx _ q i n (Nat.le_refl _)).1]) rfl (natsC_one _ _) ?_
                intro w1417 z14_17 h14_17 X14_17
                replace hb16 := h14_17
                replace hS14 : Chg wd14 _ [] := (hS14.trans X14_17).mono (by intro k hk hlt; simp at hk; omega)
                refine s_nil ⟨.inr hS14, ?_⟩
                refine d_take 18 17 rfl (by kernel_rfl) rfl hS14 (fun wS hS => runs_assign rfl) ?_
                refine d_done (by kernel_rfl) ?_
                replace hG := hG.keep hS14 (by simp)
                replace hX : Chg w _ [] := (hX.trans hS14).mono (by intro k hk hlt; simp at hk ⊢ <;> first | omega | grind)
                replace hB8 := hB8.keep hS14 (by simp)
                replace hHp := hHp.keep0 hS14
                replace hb7 := hb7.keep hS14 (by simp)
                replace hb4 := hb4.keep hS14 (by simp)
                replace hT := hT.keep hS14 (by simp)
                exact hJ33 wv _ (by rw [hINV]; exact ⟨hG, hX, hB8, hHp, hb7, hb4, by have := hS14.size; omega, _, _, _, hT, hLl, hLs, hLb, hcl⟩) _ ⟨rfl, rfl, rfl, rfl, rfl, rfl, rfl, rfl, rfl, trivial⟩
            · refine s_alloc ty28 rfl rfl ?_
              intro b16 w1416 e14_16 z14_16 hb16 X14_16
              have s14_16_hb1410 := hb1410.lt
              replace hb1410 := hb1410.keep X14_16 (by simp)
              have hb16lo : wd14.heap.size ≤ b16 := by have := hS14.size; omega
              replace hS14 : Chg wd14 _ [] := hS14.trans X14_16
              refine s_nil ⟨.inr hS14, ?_⟩
              refine d_only 8 rfl (by kernel_rfl) ?_
              refine s_append Tryd.underlying25 ty28 rfl (by decide) rfl rfl rfl (World.ownsRow_nil _ wd14.heap.size _ _) rfl (hHp.keep0 hS14).rd (natsC_one _ _) (by simp only [maxLen]; omega) (by omega) (by have := hS14.size; omega) ?_
              intro v148 w148 H14_8 X14_8 F14_8
              replace X14_8 : Chg _ _ [] := X14_8
              replace hb1410 := hb1410.keep X14_8 (by simp)
              replace hb16 := hb16.keep X14_8 (by simp)
              have hown148 := H14_8
              have hvlo : ∀ k, v148.ownBlock = some k → _ ≤ k := fun k hk => (F14_8 k hk).resolve_left (by simp [Value.ownBlock])
              have hvhi : ∀ k, v148.ownBlock = some k → k < w148.heap.size := fun k hk => (H14_8.lt k hk).2
              have hz148 := X14_8.size
              replace hS14 : Chg wd14 _ [] := hS14.trans X14_8
              refine s_nil ⟨.inr hS14, ?_⟩
              refine d_only 11 rfl (by kernel_rfl) ?_
              refine s_append Tryd.underlying25 ty28 rfl (by decide) rfl rfl rfl H14_8 rfl (hs_lit [Sp.root hs] hb1410 (by simpa using hro') rfl).rd (natsC_one _ _) (by simp only [maxLen]; omega) (by omega) (by have := hS14.size; omega) ?_
              intro v1411 w1411 H14_11 X14_11 F14_11
              replace hb16 := hb16.keep X14_11 (fun hm => by have h1 := hvlo _ (by simpa using hm); have h2 := hvhi _ (by simpa using hm); omega)
              have H14_8 := H14_11
              obtain ⟨q, hq⟩ : ∃ q, q = p ++ [Sp.root hs] := ⟨_, rfl⟩
              have okq : ∀ x ∈ q, HOk x := fun y hy => by rw [hq] at hy; rcases List.mem_append.1 hy with hy | hy; exact okp y hy; simp at hy; subst hy; exact hro'
              have hql : q.length = p.length + 1 := by rw [hq]; simp
              obtain ⟨aq, cq, rfl, hHq, hobq⟩ := own_hs (hs := q) (n := p.length + 1) (by rw [hq, List.flatten_append, natsC_append]; simpa using H14_8) okq hql
              have hqf : (Sp.climb x i n q).2 = false := by
                cases hc : (Sp.climb x i n q).2 with
                | false => rfl
                | true => have := Sp.climb_fits x x i n q p hc (by rw [hcp]); omega
              replace hS14 : Chg wd14 _ [] := (hS14.trans X14_11).mono (by intro k hk hlt; simp at hk; have := (hown148.lt k hk).1; omega)
              refine s_nil ⟨.inr hS14, ?_⟩
              refine d_only 12 rfl (by kernel_rfl) ?_
              refine s_callf (xs := [.const (.pointer none), .tmp 115, .tmp 116, .tmp 118, .tmp 123]) rfl rfl Tryd.func23 rfl (by kernel_rfl) rfl (climb0 (hG.keep hS14 (by simp)) (by have := hS14.size; omega) okx hHq (by omega) (by omega) hin) ?_
              rintro _ w1412 ⟨rfl, X14_12⟩
              replace hb16 := hb16.keep X14_12 (by simp)
              replace hHq := hHq.keep0 X14_12
              have zs14_12 := X14_12.size
              rw [hqf]
              replace hS14 : Chg wd14 _ [] := hS14.trans X14_12
              refine s_nil ⟨.inr hS14, ?_⟩
              refine d_take 13 111 rfl (by kernel_rfl) rfl hS14 (fun wS hS => runs_move rfl) ?_
              refine d_take 14 125 rfl (by kernel_rfl) rfl hS14 (fun wS hS => runs_extract rfl rfl) ?_
              refine d_take 15 126 rfl (by kernel_rfl) rfl hS14 (fun wS hS => runs_extract rfl rfl) ?_
              refine d_only 17 rfl (by kernel_rfl) ?_
              refine s_storeAll ty28 rfl rfl rfl hb16 (by rw [natsC_length, (climb_ok x okx _ q i n (Nat.le_refl _)).1]) rfl (natsC_one _ _) ?_
              intro w1417 z14_17 h14_17 X14_17
              replace hb16 := h14_17
              replace hS14 : Chg wd14 _ [] := (hS14.trans X14_17).mono (by intro k hk hlt; simp at hk; omega)
              refine s_nil ⟨.inr hS14, ?_⟩
              refine d_take 18 17 rfl (by kernel_rfl) rfl hS14 (fun wS hS => runs_assign rfl) ?_
              refine d_done (by kernel_rfl) ?_
              replace hG := hG.keep hS14 (by simp)
              replace hX : Chg w _ [] := (hX.trans hS14).mono (by intro k hk hlt; simp at hk ⊢ <;> first | omega | grind)
              replace hB8 := hB8.keep hS14 (by simp)
              replace hHp := hHp.keep0 hS14
              replace hb7 := hb7.keep hS14 (by simp)
              replace hb4 := hb4.keep hS14 (by simp)
              replace hT := hT.keep hS14 (by simp)
              exact hJ33 wv _ (by rw [hINV]; exact ⟨hG, hX, hB8, hHp, hb7, hb4, by have := hS14.size; omega, _, _, _, hT, hLl, hLs, hLb, hcl⟩) _ ⟨rfl, rfl, rfl, rfl, rfl, rfl, rfl, rfl, rfl, trivial⟩
          · refine s_alloc ty28 rfl rfl ?_
            intro b16 w1416 e14_16 z14_16 hb16 X14_16
            have hb16lo : wd14.heap.size ≤ b16 := by have := hS14.size; omega
            replace hS14 : Chg wd14 _ [] := hS14.trans X14_16
            refine s_nil ⟨.inr hS14, ?_⟩
            refine d_two 8 10 rfl rfl (by kernel_rfl) ?_ ?_
            · refine s_append Tryd.underlying25 ty28 rfl (by decide) rfl rfl rfl (World.ownsRow_nil _ wd14.heap.size _ _) rfl (hHp.keep0 hS14).rd (natsC_one _ _) (by simp only [maxLen]; omega) (by omega) (by have := hS14.size; omega) ?_
              intro v148 w148 H14_8 X14_8 F14_8
              replace X14_8 : Chg _ _ [] := X14_8
              replace hb16 := hb16.keep X14_8 (by simp)
              have hown148 := H14_8
              have hvlo : ∀ k, v148.ownBlock = some k → _ ≤ k := fun k hk => (F14_8 k hk).resolve_left (by simp [Value.ownBlock])
              have hvhi : ∀ k, v148.ownBlock = some k → k < w148.heap.size := fun k hk => (H14_8.lt k hk).2
              have hz148 := X14_8.size
              replace hS14 : Chg wd14 _ [] := hS14.trans X14_8
              refine s_nil ⟨.inr hS14, ?_⟩
              refine d_only 10 rfl (by kernel_rfl) ?_
              refine s_lit (xs := [.tmp 121]) Tryd.underlying25 ty28 rfl rfl rfl rfl rfl (hv_sz (l := [Sp.root hs]) (by simpa using hro')) (by decide) (by decide) ?_
              intro b1410 w1410 e14_10 z14_10 hb1410 X14_10
              have s14_10_hb16 := hb16.lt
              replace hb16 := hb16.keep X14_10 (by simp)
              replace H14_8 := own_keep H14_8 X14_10 (by simp)
              replace hS14 : Chg wd14 _ [] := hS14.trans X14_10
              refine s_nil ⟨.inr hS14, ?_⟩
              refine d_only 11 rfl (by kernel_rfl) ?_
              refine s_append Tryd.underlying25 ty28 rfl (by decide) rfl rfl rfl H14_8 rfl (hs_lit [Sp.root hs] hb1410 (by simpa using hro') rfl).rd (natsC_one _ _) (by simp only [maxLen]; omega) (by omega) (by have := hS14.size; omega) ?_
              intro v1411 w1411 H14_11 X14_11 F14_11
              replace hb16 := hb16.keep X14_11 (fun hm => by have h1 := hvlo _ (by simpa using hm); have h2 := hvhi _ (by simpa using hm); omega)
              have H14_8 := H14_11
              obtain ⟨q, hq⟩ : ∃ q, q = p ++ [Sp.root hs] := ⟨_, rfl⟩
              have okq : ∀ x ∈ q, HOk x := fun y hy => by rw [hq] at hy; rcases List.mem_append.1 hy with hy | hy; exact okp y hy; simp at hy; subst hy; exact hro'
              have hql : q.length = p.length + 1 := by rw [hq]; simp
              obtain ⟨aq, cq, rfl, hHq, hobq⟩ := own_hs (hs := q) (n := p.length + 1) (by rw [hq, List.flatten_append, natsC_append]; simpa using H14_8) okq hql
              have hqf : (Sp.climb x i n q).2 = false := by
                cases hc : (Sp.climb x i n q).2 with
                | false => rfl
                | true => have := Sp.climb_fits x x i n q p hc (by rw [hcp]); omega
              replace hS14 : Chg wd14 _ [] := (hS14.trans X14_11).mono (by intro k hk hlt; simp at hk; have := (hown148.lt k hk).1; omega)
              refine s_nil ⟨.inr hS14, ?_⟩
              refine d_only 12 rfl (by kernel_rfl) ?_
              refine s_callf (xs := [.const (.pointer none), .tmp 115, .tmp 116, .tmp 118, .tmp 123]) rfl rfl Tryd.func23 rfl (by kernel_rfl) rfl (climb0 (hG.keep hS14 (by simp)) (by have := hS14.size; omega) okx hHq (by omega) (by omega) hin) ?_
              rintro _ w1412 ⟨rfl, X14_12⟩
              replace hb16 := hb16.keep X14_12 (by simp)
              replace hHq := hHq.keep0 X14_12
              have zs14_12 := X14_12.size
              rw [hqf]
              replace hS14 : Chg wd14 _ [] := hS14.trans X14_12
              refine s_nil ⟨.inr hS14, ?_⟩
              refine d_take 13 111 rfl (by kernel_rfl) rfl hS14 (fun wS hS => runs_move rfl) ?_
              refine d_take 14 125 rfl (by kernel_rfl) rfl hS14 (fun wS hS => runs_extract rfl rfl) ?_
              refine d_take 15 126 rfl (by kernel_rfl) rfl hS14 (fun wS hS => runs_extract rfl rfl) ?_
              refine d_only 17 rfl (by kernel_rfl) ?_
              refine s_storeAll ty28 rfl rfl rfl hb16 (by rw [natsC_length, (climb_ok x okx _ q i n (Nat.le_refl _)).1]) rfl (natsC_one _ _) ?_
              intro w1417 z14_17 h14_17 X14_17
              replace hb16 := h14_17
              replace hS14 : Chg wd14 _ [] := (hS14.trans X14_17).mono (by intro k hk hlt; simp at hk; omega)
              refine s_nil ⟨.inr hS14, ?_⟩
              refine d_take 18 17 rfl (by kernel_rfl) rfl hS14 (fun wS hS => runs_assign rfl) ?_
              refine d_done (by kernel_rfl) ?_
              replace hG := hG.keep hS14 (by simp)
              replace hX : Chg w _ [] := (hX.trans hS14).mono (by intro k hk hlt; simp at hk ⊢ <;> first | omega | grind)
              replace hB8 := hB8.keep hS14 (by simp)
              replace hHp := hHp.keep0 hS14
              replace hb7 := hb7.keep hS14 (by simp)
              replace hb4 := hb4.keep hS14 (by simp)
              replace hT := hT.keep hS14 (by simp)
              exact hJ33 wv _ (by rw [hINV]; exact ⟨hG, hX, hB8, hHp, hb7, hb4, by have := hS14.size; omega, _, _, _, hT, hLl, hLs, hLb, hcl⟩) _ ⟨rfl, rfl, rfl, rfl, rfl, rfl, rfl, rfl, rfl, trivial⟩
            · refine s_lit (xs := [.tmp 121]) Tryd.underlying25 ty28 rfl rfl rfl rfl rfl (hv_sz (l := [Sp.root hs]) (by simpa using hro')) (by decide) (by decide) ?_
              intro b1410 w1410 e14_10 z14_10 hb1410 X14_10
              have s14_10_hb16 := hb16.lt
              replace hb16 := hb16.keep X14_10 (by simp)
              replace hS14 : Chg wd14 _ [] := hS14.trans X14_10
              refine s_nil ⟨.inr hS14, ?_⟩
              refine d_only 8 rfl (by kernel_rfl) ?_
              refine s_append Tryd.underlying25 ty28 rfl (by decide) rfl rfl rfl (World.ownsRow_nil _ wd14.heap.size _ _) rfl (hHp.keep0 hS14).rd (natsC_one _ _) (by simp only [maxLen]; omega) (by omega) (by have := hS14.size; omega) ?_
              intro v148 w148 H14_8 X14_8 F14_8
              replace X14_8 : Chg _ _ [] := X14_8
              replace hb16 := hb16.keep X14_8 (by simp)
              replace hb1410 := hb1410.keep X14_8 (by simp)
              have hown148 := H14_8
              have hvlo : ∀ k, v148.ownBlock = some k → _ ≤ k := fun k hk => (F14_8 k hk).resolve_left (by simp [Value.ownBlock])
              have hvhi : ∀ k, v148.ownBlock = some k → k < w148.heap.size := fun k hk => (H14_8.lt k hk).2
              have hz148 := X14_8.size
              replace hS14 : Chg wd14 _ [] := hS14.trans X14_8
              refine s_nil ⟨.inr hS14, ?_⟩
              refine d_only 11 rfl (by kernel_rfl) ?_
              refine s_append Tryd.underlying25 ty28 rfl (by decide) rfl rfl rfl H14_8 rfl (hs_lit [Sp.root hs] hb1410 (by simpa using hro') rfl).rd (natsC_one _ _) (by simp only [maxLen]; omega) (by omega) (by have := hS14.size; omega) ?_
              intro v1411 w1411 H14_11 X14_11 F14_11
              replace hb16 := hb16.keep X14_11 (fun hm => by have h1 := hvlo _ (by simpa using hm); have h2 := hvhi _ (by simpa using hm); omega)
              have H14_8 := H14_11
              obtain ⟨q, hq⟩ : ∃ q, q = p ++ [Sp.root hs] := ⟨_, rfl⟩
              have okq : ∀ x ∈ q, HOk x := fun y hy => by rw [hq] at hy; rcases List.mem_append.1 hy with hy | hy; exact okp y hy; simp at hy; subst hy; exact hro'
              have hql : q.length = p.length + 1 := by rw [hq]; simp
              obtain ⟨aq, cq, rfl, hHq, hobq⟩ := own_hs (hs := q) (n := p.length + 1) (by rw [hq, List.flatten_append, natsC_append]; simpa using H14_8) okq hql
              have hqf : (Sp.climb x i n q).2 = false := by
                cases hc : (Sp.climb x i n q).2 with
                | false => rfl
                | true => have := Sp.climb_fits x x i n q p hc (by rw [hcp]); omega
              replace hS14 : Chg wd14 _ [] := (hS14.trans X14_11).mono (by intro k hk hlt; simp at hk; have := (hown148.lt k hk).1; omega)
              refine s_nil ⟨.inr hS14, ?_⟩
              refine d_only 12 rfl (by kernel_rfl) ?_
              refine s_callf (xs := [.const (.pointer none), .tmp 115, .tmp 116, .tmp 118, .tmp 123]) rfl rfl Tryd.func23 rfl (by kernel_rfl) rfl (climb0 (hG.keep hS14 (by simp)) (by have := hS14.size; omega) okx hHq (by omega) (by omega) hin) ?_
              rintro _ w1412 ⟨rfl, X14_12⟩
              replace hb16 := hb16.keep X14_12 (by simp)
              replace hHq := hHq.keep0 X14_12
              have zs14_12 := X14_12.size
              rw [hqf]
              replace hS14 : Chg wd14 _ [] := hS14.trans X14_12
              refine s_nil ⟨.inr hS14, ?_⟩
              refine d_take 13 111 rfl (by kernel_rfl) rfl hS14 (fun wS hS => runs_move rfl) ?_
              refine d_take 14 125 rfl (by kernel_rfl) rfl hS14 (fun wS hS => runs_extract rfl rfl) ?_
              refine d_take 15 126 rfl (by kernel_rfl) rfl hS14 (fun wS hS => runs_extract rfl rfl) ?_
              refine d_only 17 rfl (by kernel_rfl) ?_
              refine s_storeAll ty28 rfl rfl rfl hb16 (by rw [natsC_length, (climb_ok x okx _ q i n (Nat.le_refl _)).1]) rfl (natsC_one _ _) ?_
              intro w1417 z14_17 h14_17 X14_17
              replace hb16 := h14_17
              replace hS14 : Chg wd14 _ [] := (hS14.trans X14_17).mono (by intro k hk hlt; simp at hk; omega)
              refine s_nil ⟨.inr hS14, ?_⟩
              refine d_take 18 17 rfl (by kernel_rfl) rfl hS14 (fun wS hS => runs_assign rfl) ?_
              refine d_done (by kernel_rfl) ?_
              replace hG := hG.keep hS14 (by simp)
              replace hX : Chg w _ [] := (hX.trans hS14).mono (by intro k hk hlt; simp at hk ⊢ <;> first | omega | grind)
              replace hB8 := hB8.keep hS14 (by simp)
              replace hHp := hHp.keep0 hS14
              replace hb7 := hb7.keep hS14 (by simp)
              replace hb4 := hb4.keep hS14 (by simp)
              replace hT := hT.keep hS14 (by simp)
              exact hJ33 wv _ (by rw [hINV]; exact ⟨hG, hX, hB8, hHp, hb7, hb4, by have := hS14.size; omega, _, _, _, hT, hLl, hLs, hLb, hcl⟩) _ ⟨rfl, rfl, rfl, rfl, rfl, rfl, rfl, rfl, rfl, trivial⟩
        rcases (show y1 ≠ Sp.root hs ∨ (y1 = Sp.root hs ∧ bs ≠ li) ∨ (y1 = Sp.root hs ∧ bs = li) by by_cases h : y1 = Sp.root hs <;> by_cases h2 : bs = li <;> simp [h, h2]) with he | ⟨he, hbe2⟩ | ⟨he, hbe2⟩
        · refine c_drawX [] ([]) (by kernel_rfl) ?_
          intro wd13 Xd13 hS13
          replace hG := hG.keep Xd13 (by simp)
          replace hX : Chg w _ [] := (hX.trans Xd13).mono (by intro k hk hlt; simp at hk ⊢ <;> first | omega | grind)
          replace hB8 := hB8.keep Xd13 (by simp)
          replace hHp := hHp.keep0 Xd13
          replace hb7 := hb7.keep Xd13 (by simp)
          replace hb4 := hb4.keep Xd13 (by simp)
          replace hT := hT.keep Xd13 (by simp)
          replace hb13 := hb13.keep Xd13 (by simp)
          have zd13 := Xd13.size
          refine d_take 0 98 rfl (by kernel_rfl) rfl hS13 (fun wS hS => runs_loadAgg ty28 rfl ((hb13.keep hS (by simp)).at) (by rw [natsC_length, oky1.1])) ?_
          refine d_take 1 99 rfl (by kernel_rfl) rfl hS13 (fun wS hS => runs_loadAgg ty28 rfl ((hb7.keep hS (by simp)).at) (by rw [natsC_length, hro])) ?_
          refine d_take 2 100 rfl (by kernel_rfl) rfl hS13 (fun wS hS => runs_df (runs_hv_eq rfl rfl oky1 hro') he) ?_
          refine d_take 3 101 rfl (by kernel_rfl) rfl hS13 (fun wS hS => runs_move rfl) ?_
          refine d_takeskip 4 102 rfl (by kernel_rfl) rfl hS13 ?_
          refine d_takeskip 5 103 rfl (by kernel_rfl) rfl hS13 ?_
          refine d_takeskip 6 104 rfl (by kernel_rfl) rfl hS13 ?_
          refine d_takeskip 7 105 rfl (by kernel_rfl) rfl hS13 ?_
          refine d_takeskip 8 106 rfl (by kernel_rfl) rfl hS13 ?_
          refine d_takeskip 9 107 rfl (by kernel_rfl) rfl hS13 ?_
          refine d_takeskip 10 108 rfl (by kernel_rfl) rfl hS13 ?_
          refine d_takeskip 11 109 rfl (by kernel_rfl) rfl hS13 ?_
          refine d_take 12 110 rfl (by kernel_rfl) rfl hS13 (fun wS hS => runs_pickf rfl rfl) ?_
          refine d_take 13 15 rfl (by kernel_rfl) rfl hS13 (fun wS hS => runs_assign rfl) ?_
          refine d_done (by kernel_rfl) ?_
          replace hG := hG.keep hS13 (by simp)
          replace hX : Chg w _ [] := (hX.trans hS13).mono (by intro k hk hlt; simp at hk ⊢ <;> first | omega | grind)
          replace hB8 := hB8.keep hS13 (by simp)
          replace hHp := hHp.keep0 hS13
          replace hb7 := hb7.keep hS13 (by simp)
          replace hb4 := hb4.keep hS13 (by simp)
          replace hT := hT.keep hS13 (by simp)
          replace hb13 := hb13.keep hS13 (by simp)
          have hzE := hX.size
          exact hJ31 false _ (by
            rw [hINV]
            exact ⟨hG, hX, hB8, hHp, hb7, hb4, by omega, _, _, _, hT.set ls (fun x hx => .inl (by simpa [hls, or_assoc] using hx)), (by simp; omega), (by
              intro z hz
              simp only [List.mem_append] at hz
              have h65 := notes_short _ hs (Nat.le_refl _) hsok z
              have h101 := leaves_short hl2 z
              have hcN := climbN_short (Sp.leaf bs) okb _ p i n (Nat.le_refl _) okp z
              rcases hz with ((hz | hz) | hz) | hz
              · exact h101 hz
              · have := h65 hz; omega
              · simp at hz; subst hz; simp; omega
              · have := hcN hz; omega), (fun z hz => by rcases hz with hz | hz <;> simp [hz]), (by simp)⟩) _ ⟨rfl, rfl, rfl, rfl, rfl, rfl, rfl, rfl, trivial⟩
        · refine c_drawX [] ([]) (by kernel_rfl) ?_
          intro wd13 Xd13 hS13
          replace hG := hG.keep Xd13 (by simp)
          replace hX : Chg w _ [] := (hX.trans Xd13).mono (by intro k hk hlt; simp at hk ⊢ <;> first | omega | grind)
          replace hB8 := hB8.keep Xd13 (by simp)
          replace hHp := hHp.keep0 Xd13
          replace hb7 := hb7.keep Xd13 (by simp)
          replace hb4 := hb4.keep Xd13 (by simp)
          replace hT := hT.keep Xd13 (by simp)
          replace hb13 := hb13.keep Xd13 (by simp)
          have zd13 := Xd13.size
          refine d_take 0 98 rfl (by kernel_rfl) rfl hS13 (fun wS hS => runs_loadAgg ty28 rfl ((hb13.keep hS (by simp)).at) (by rw [natsC_length, oky1.1])) ?_
          refine d_take 1 99 rfl (by kernel_rfl) rfl hS13 (fun wS hS => runs_loadAgg ty28 rfl ((hb7.keep hS (by simp)).at) (by rw [natsC_length, hro])) ?_
          refine d_take 2 100 rfl (by kernel_rfl) rfl hS13 (fun wS hS => runs_dt (runs_hv_eq rfl rfl oky1 hro') he) ?_
          refine d_take 3 101 rfl (by kernel_rfl) rfl hS13 (fun wS hS => runs_move rfl) ?_
          refine d_take 4 102 rfl (by kernel_rfl) rfl hS13 (fun wS hS => runs_move rfl) ?_
          refine d_take 5 103 rfl (by kernel_rfl) rfl hS13 (fun wS hS => runs_str rfl (hb.grow (hX.trans hS)) hbl) ?_
          refine d_take 6 104 rfl (by kernel_rfl) rfl hS13 (fun wS hS => runs_move rfl) ?_
          refine d_take 7 105 rfl (by kernel_rfl) rfl hS13 (fun wS hS => runs_move rfl) ?_
          refine d_take 8 106 rfl (by kernel_rfl) rfl hS13 (fun wS hS => runs_index_slice (i) Tryd.underlying22 ty32 rfl rfl (by omega) (by omega)) ?_
          refine d_take 9 107 rfl (by kernel_rfl) rfl hS13 (fun wS hS => runs_load1 ty32 rfl ((hvs0.grow (hX.trans hS)).elem1 hvi)) ?_
          refine d_take 10 108 rfl (by kernel_rfl) rfl hS13 (fun wS hS => runs_str rfl (hrbi0.grow (hX.trans hS)) hbil) ?_
          refine d_take 11 109 rfl (by kernel_rfl) rfl hS13 (fun wS hS => runs_dt (runs_strne rfl rfl) (fun e => hbe2 (bstr_inj hbl hbil e))) ?_
          refine d_take 12 110 rfl (by kernel_rfl) rfl hS13 (fun wS hS => runs_pickt rfl rfl) ?_
          refine d_take 13 15 rfl (by kernel_rfl) rfl hS13 (fun wS hS => runs_assign rfl) ?_
          refine d_done (by kernel_rfl) ?_
          replace hG := hG.keep hS13 (by simp)
          replace hX : Chg w _ [] := (hX.trans hS13).mono (by intro k hk hlt; simp at hk ⊢ <;> first | omega | grind)
          replace hB8 := hB8.keep hS13 (by simp)
          replace hHp := hHp.keep0 hS13
          replace hb7 := hb7.keep hS13 (by simp)
          replace hb4 := hb4.keep hS13 (by simp)
          replace hT := hT.keep hS13 (by simp)
          replace hb13 := hb13.keep hS13 (by simp)
          have hzE := hX.size
          exact hJ31 true _ (by
            rw [hINV]
            exact ⟨hG, hX, hB8, hHp, hb7, hb4, by omega, _, _, _, hT.set ls (fun x hx => .inl (by simpa [hls, or_assoc] using hx)), (by simp; omega), (by
              intro z hz
              simp only [List.mem_append] at hz
              have h65 := notes_short _ hs (Nat.le_refl _) hsok z
              have h101 := leaves_short hl2 z
              have hcN := climbN_short (Sp.leaf bs) okb _ p i n (Nat.le_refl _) okp z
              rcases hz with ((hz | hz) | hz) | hz
              · exact h101 hz
              · have := h65 hz; omega
              · simp at hz; subst hz; simp; omega
              · have := hcN hz; omega), (fun z hz => by rcases hz with hz | hz <;> simp [hz]), (fun _ => by
              have hc1 : Sp.climb (Sp.leaf bs) i n p = (Sp.root hs, true) := Prod.ext (by rw [← hy1]; exact he) (hfit _)
              rw [← hsl] at hc1
              rcases climb_coll _ hs i p (Sp.leaf bs) (Nat.le_refl _) (by omega) hsok okb okp hc1 with ⟨h1, _⟩ | h1
              · rw [hx] at h1
                exact leaf_coll (by rw [← hxl]; exact (Option.some.inj h1).symm) hbe2 (by simp) (by simp [List.mem_of_getElem? hli])
              · rw [hsl] at h1
                exact h1.mono fun z hz => by simp only [List.mem_append] at hz ⊢; rcases hz with hz | hz <;> simp [hz])⟩) _ ⟨rfl, rfl, rfl, rfl, rfl, rfl, rfl, rfl, trivial⟩
        · refine c_drawX [] ([]) (by kernel_rfl) ?_
          intro wd13 Xd13 hS13
          replace hG := hG.keep Xd13 (by simp)
          replace hX : Chg w _ [] := (hX.trans Xd13).mono (by intro k hk hlt; simp at hk ⊢ <;> first | omega | grind)
          replace hB8 := hB8.keep Xd13 (by simp)
          replace hHp := hHp.keep0 Xd13
          replace hb7 := hb7.keep Xd13 (by simp)
          replace hb4 := hb4.keep Xd13 (by simp)
          replace hT := hT.keep Xd13 (by simp)
          replace hb13 := hb13.keep Xd13 (by simp)
          have zd13 := Xd13.size
          refine d_take 0 98 rfl (by kernel_rfl) rfl hS13 (fun wS hS => runs_loadAgg ty28 rfl ((hb13.keep hS (by simp)).at) (by rw [natsC_length, oky1.1])) ?_
          refine d_take 1 99 rfl (by kernel_rfl) rfl hS13 (fun wS hS => runs_loadAgg ty28 rfl ((hb7.keep hS (by simp)).at) (by rw [natsC_length, hro])) ?_
          refine d_take 2 100 rfl (by kernel_rfl) rfl hS13 (fun wS hS => runs_dt (runs_hv_eq rfl rfl oky1 hro') he) ?_
          refine d_take 3 101 rfl (by kernel_rfl) rfl hS13 (fun wS hS => runs_move rfl) ?_
          refine d_take 4 102 rfl (by kernel_rfl) rfl hS13 (fun wS hS => runs_move rfl) ?_
          refine d_take 5 103 rfl (by kernel_rfl) rfl hS13 (fun wS hS => runs_str rfl (hb.grow (hX.trans hS)) hbl) ?_
          refine d_take 6 104 rfl (by kernel_rfl) rfl hS13 (fun wS hS => runs_move rfl) ?_
          refine d_take 7 105 rfl (by kernel_rfl) rfl hS13 (fun wS hS => runs_move rfl) ?_
          refine d_take 8 106 rfl (by kernel_rfl) rfl hS13 (fun wS hS => runs_index_slice (i) Tryd.underlying22 ty32 rfl rfl (by omega) (by omega)) ?_
          refine d_take 9 107 rfl (by kernel_rfl) rfl hS13 (fun wS hS => runs_load1 ty32 rfl ((hvs0.grow (hX.trans hS)).elem1 hvi)) ?_
          refine d_take 10 108 rfl (by kernel_rfl) rfl hS13 (fun wS hS => runs_str rfl (hrbi0.grow (hX.trans hS)) hbil) ?_
          refine d_take 11 109 rfl (by kernel_rfl) rfl hS13 (fun wS hS => runs_df (runs_strne rfl rfl) (fun h => h (by rw [hbe2]))) ?_
          refine d_take 12 110 rfl (by kernel_rfl) rfl hS13 (fun wS hS => runs_pickt rfl rfl) ?_
          refine d_take 13 15 rfl (by kernel_rfl) rfl hS13 (fun wS hS => runs_assign rfl) ?_
          refine d_done (by kernel_rfl) ?_
          replace hG := hG.keep hS13 (by simp)
          replace hX : Chg w _ [] := (hX.trans hS13).mono (by intro k hk hlt; simp at hk ⊢ <;> first | omega | grind)
          replace hB8 := hB8.keep hS13 (by simp)
          replace hHp := hHp.keep0 hS13
          replace hb7 := hb7.keep hS13 (by simp)
          replace hb4 := hb4.keep hS13 (by simp)
          replace hT := hT.keep hS13 (by simp)
          replace hb13 := hb13.keep hS13 (by simp)
          have hzE := hX.size
          exact hJ31 false _ (by
            rw [hINV]
            exact ⟨hG, hX, hB8, hHp, hb7, hb4, by omega, _, _, _, hT.set ls (fun x hx => .inl (by simpa [hls, or_assoc] using hx)), (by simp; omega), (by
              intro z hz
              simp only [List.mem_append] at hz
              have h65 := notes_short _ hs (Nat.le_refl _) hsok z
              have h101 := leaves_short hl2 z
              have hcN := climbN_short (Sp.leaf bs) okb _ p i n (Nat.le_refl _) okp z
              rcases hz with ((hz | hz) | hz) | hz
              · exact h101 hz
              · have := h65 hz; omega
              · simp at hz; subst hz; simp; omega
              · have := hcN hz; omega), (fun z hz => by rcases hz with hz | hz <;> simp [hz]), (by simp)⟩) _ ⟨rfl, rfl, rfl, rfl, rfl, rfl, rfl, rfl, trivial⟩
      by_cases hbe : bs = li
      · refine c_drawX [] ([]) (by kernel_rfl) ?_
        intro wd11 Xd11 hS11
        replace hG := hG.keep Xd11 (by simp)
        replace hX : Chg w _ [] := (hX.trans Xd11).mono (by intro k hk hlt; simp at hk ⊢ <;> first | omega | grind)
        replace hb4 := hb4.keep Xd11 (by simp)
        replace hB8 := hB8.keep Xd11 (by simp)
        replace hb7 := hb7.keep Xd11 (by simp)
        replace hHp := hHp.keep0 Xd11
        replace hT := hT.keep Xd11 (by simp)
        replace hb13 := hb13.keep Xd11 (by simp)
        have zd11 := Xd11.size
        refine d_take 0 81 rfl (by kernel_rfl) rfl hS11 (fun wS hS => runs_move rfl) ?_
        refine d_take 1 82 rfl (by kernel_rfl) rfl hS11 (fun wS hS => runs_not rfl) ?_
        refine d_take 2 83 rfl (by kernel_rfl) rfl hS11 (fun wS hS => runs_move rfl) ?_
        refine d_take 3 84 rfl (by kernel_rfl) rfl hS11 (fun wS hS => runs_move rfl) ?_
        refine d_take 4 85 rfl (by kernel_rfl) rfl hS11 (fun wS hS => runs_str rfl (hb.grow (hX.trans hS)) hbl) ?_
        refine d_take 5 86 rfl (by kernel_rfl) rfl hS11 (fun wS hS => runs_move rfl) ?_
        refine d_take 6 87 rfl (by kernel_rfl) rfl hS11 (fun wS hS => runs_move rfl) ?_
        refine d_take 7 88 rfl (by kernel_rfl) rfl hS11 (fun wS hS => runs_index_slice (i) Tryd.underlying22 ty32 rfl rfl (by omega) (by omega)) ?_
        refine d_take 8 89 rfl (by kernel_rfl) rfl hS11 (fun wS hS => runs_load1 ty32 rfl ((hvs0.grow (hX.trans hS)).elem1 hvi)) ?_
        refine d_take 9 90 rfl (by kernel_rfl) rfl hS11 (fun wS hS => runs_str rfl (hrbi0.grow (hX.trans hS)) hbil) ?_
        refine d_take 10 91 rfl (by kernel_rfl) rfl hS11 (fun wS hS => runs_dt (runs_streq rfl rfl) (by rw [hbe])) ?_
        refine d_take 11 92 rfl (by kernel_rfl) rfl hS11 (fun wS hS => runs_move rfl) ?_
        refine d_take 12 93 rfl (by kernel_rfl) rfl hS11 (fun wS hS => runs_loadAgg ty28 rfl ((hb13.keep hS (by simp)).at) (by rw [natsC_length, oky1.1])) ?_
        refine d_take 13 94 rfl (by kernel_rfl) rfl hS11 (fun wS hS => runs_loadAgg ty28 rfl ((hb7.keep hS (by simp)).at) (by rw [natsC_length, hro])) ?_
        refine d_take 14 95 rfl (by kernel_rfl) rfl hS11 (fun wS hS => runs_df (runs_hv_ne rfl rfl oky1 hro') (fun h => h (by rw [hy1, hbe, ← hxl, hcp]))) ?_
        refine d_take 15 96 rfl (by kernel_rfl) rfl hS11 (fun wS hS => runs_pickt rfl rfl) ?_
        refine d_take 16 97 rfl (by kernel_rfl) rfl hS11 (fun wS hS => runs_pickf rfl rfl) ?_
        refine d_done (by kernel_rfl) ?_
        replace hG := hG.keep hS11 (by simp)
        replace hX : Chg w _ [] := (hX.trans hS11).mono (by intro k hk hlt; simp at hk ⊢ <;> first | omega | grind)
        replace hb4 := hb4.keep hS11 (by simp)
        replace hB8 := hB8.keep hS11 (by simp)
        replace hb7 := hb7.keep hS11 (by simp)
        replace hHp := hHp.keep0 hS11
        replace hT := hT.keep hS11 (by simp)
        replace hb13 := hb13.keep hS11 (by simp)
        exact hJ30 _ ⟨hG, hX, hB8, hHp, hb7, hb4, hb13, by omega, hT⟩ _ ⟨rfl, rfl, rfl, rfl, rfl, rfl, rfl, rfl, rfl, rfl, trivial⟩
      · refine c_drawX [] ([]) (by kernel_rfl) ?_
        intro wd11 Xd11 hS11
        replace hG := hG.keep Xd11 (by simp)
        replace hX : Chg w _ [] := (hX.trans Xd11).mono (by intro k hk hlt; simp at hk ⊢ <;> first | omega | grind)
        replace hb4 := hb4.keep Xd11 (by simp)
        replace hB8 := hB8.keep Xd11 (by simp)
        replace hb7 := hb7.keep Xd11 (by simp)
        replace hHp := hHp.keep0 Xd11
        replace hT := hT.keep Xd11 (by simp)
        replace hb13 := hb13.keep Xd11 (by simp)
        have zd11 := Xd11.size
        refine d_take 0 81 rfl (by kernel_rfl) rfl hS11 (fun wS hS => runs_move rfl) ?_
        refine d_take 1 82 rfl (by kernel_rfl) rfl hS11 (fun wS hS => runs_not rfl) ?_
        refine d_take 2 83 rfl (by kernel_rfl) rfl hS11 (fun wS hS => runs_move rfl) ?_
        refine d_take 3 84 rfl (by kernel_rfl) rfl hS11 (fun wS hS => runs_move rfl) ?_
        refine d_take 4 85 rfl (by kernel_rfl) rfl hS11 (fun wS hS => runs_str rfl (hb.grow (hX.trans hS)) hbl) ?_
        refine d_take 5 86 rfl (by kernel_rfl) rfl hS11 (fun wS hS => runs_move rfl) ?_
        refine d_take 6 87 rfl (by kernel_rfl) rfl hS11 (fun wS hS => runs_move rfl) ?_
        refine d_take 7 88 rfl (by kernel_rfl) rfl hS11 (fun wS hS => runs_index_slice (i) Tryd.underlying22 ty32 rfl rfl (by omega) (by omega)) ?_
        refine d_take 8 89 rfl (by kernel_rfl) rfl hS11 (fun wS hS => runs_load1 ty32 rfl ((hvs0.grow (hX.trans hS)).elem1 hvi)) ?_
        refine d_take 9 90 rfl (by kernel_rfl) rfl hS11 (fun wS hS => runs_str rfl (hrbi0.grow (hX.trans hS)) hbil) ?_
        refine d_take 10 91 rfl (by kernel_rfl) rfl hS11 (fun wS hS => runs_df (runs_streq rfl rfl) (fun e => hbe (bstr_inj hbl hbil e))) ?_
        refine d_take 11 92 rfl (by kernel_rfl) rfl hS11 (fun wS hS => runs_move rfl) ?_
        refine d_takeskip 12 93 rfl (by kernel_rfl) rfl hS11 ?_
        refine d_takeskip 13 94 rfl (by kernel_rfl) rfl hS11 ?_
        refine d_takeskip 14 95 rfl (by kernel_rfl) rfl hS11 ?_
        refine d_take 15 96 rfl (by kernel_rfl) rfl hS11 (fun wS hS => runs_pickf rfl rfl) ?_
        refine d_take 16 97 rfl (by kernel_rfl) rfl hS11 (fun wS hS => runs_pickf rfl rfl) ?_
        refine d_done (by kernel_rfl) ?_
        replace hG := hG.keep hS11 (by simp)
        replace hX : Chg w _ [] := (hX.trans hS11).mono (by intro k hk hlt; simp at hk ⊢ <;> first | omega | grind)
        replace hb4 := hb4.keep hS11 (by simp)
        replace hB8 := hB8.keep hS11 (by simp)
        replace hb7 := hb7.keep hS11 (by simp)
        replace hHp := hHp.keep0 hS11
        replace hT := hT.keep hS11 (by simp)
        replace hb13 := hb13.keep hS11 (by simp)
        exact hJ30 _ ⟨hG, hX, hB8, hHp, hb7, hb4, hb13, by omega, hT⟩ _ ⟨rfl, rfl, rfl, rfl, rfl, rfl, rfl, rfl, rfl, rfl, trivial⟩
end Go.Proofs.YtecpedpfkdnfhaaDoor
