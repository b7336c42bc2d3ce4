/- Part Orders of the proofs on this seat. Conditions: none beyond those in the theorems. By an AI agent. -/
import Derived.Test.YtecpedpfkdnfhaaDoorLaw1
namespace Go.Proofs.YtecpedpfkdnfhaaDoor
open Go Go.RowKit

set_option maxHeartbeats 4000000 in
theorem orders_calls (B : Nat) (bss : List (List Nat)) (a : Option Addr) (n c : Nat) (ka kb : Int) (w : World) (hG0 : GH B w) (hBw : B ≤ w.heap.size) (hP : Parts w a n c bss) :
    CallsR Tryd.prog 4 #[.slice a n c, .int .i64 ka, .int .i64 kb] w fun v w' => v = .bool true ∧ Chg w w' [] := by
  have hlen := hP.length
  have hX : Chg w w [] := Chg.refl _ _
  have hG := hG0
  refine f_enter (l := [.slice a n c, .int .i64 ka, .int .i64 kb]) Tryd.func4 rfl rfl rfl rfl ?_
  cases hL : Sp.light bss with
  | false =>
    intro Qf hnrm hret
    refine c_seqreg (fun K1 hK1 => ?_)
    refine s_val rfl rfl (runs_assign rfl) ?_
    refine s_nil ?_
    refine hK1 _ _ ?_
    refine c_seq (fun K2 hK2 => ?_)
    refine c_seqreg (fun K3 hK3 => ?_)
    refine s_callf (xs := []) rfl rfl Tryd.func12 rfl (by kernel_rfl) rfl (fit_calls B _ hG (by omega)) ?_
    rintro _ w1 ⟨rfl, X1_0⟩
    replace hG := hG.keep X1_0 (by simp)
    replace hX : Chg w _ [] := (hX.trans X1_0).mono (by intro k hk hlt; simp at hk ⊢ <;> first | omega | grind)
    have hz1 := X1_0.size
    refine s_val rfl rfl (runs_not rfl) ?_
    refine s_nil ?_
    refine hK3 _ _ ?_
    refine c_false rfl ?_
    refine c_skip ?_
    refine hK2 _ _ ?_
    refine c_seq (fun K5 hK5 => ?_)
    refine c_seqreg (fun K6 hK6 => ?_)
    refine s_val rfl rfl (runs_move rfl) ?_
    refine s_callf (xs := [.tmp 13]) rfl rfl Tryd.func13 rfl (by kernel_rfl) rfl (light_calls bss _ _ _ _ (hP.grow hX)) ?_
    rintro _ w3 ⟨rfl, X3_1⟩
    replace hG := hG.keep X3_1 (by simp)
    replace hX : Chg w _ [] := (hX.trans X3_1).mono (by intro k hk hlt; simp at hk ⊢ <;> first | omega | grind)
    have hz3 := X3_1.size
    rw [hL]
    refine s_val rfl rfl (runs_not rfl) ?_
    refine s_val rfl rfl (runs_move rfl) ?_
    refine s_skip rfl rfl ?_
    refine s_skip rfl rfl ?_
    refine s_skip rfl rfl ?_
    refine s_val rfl rfl (runs_pickt rfl rfl) ?_
    refine s_nil ?_
    refine hK6 _ _ ?_
    refine c_true rfl ?_
    refine c_seqreg (fun K8 hK8 => ?_)
    refine s_val rfl rfl (runs_assign rfl) ?_
    refine s_nil ?_
    refine hK8 _ _ ?_
    refine c_ret ?_
    refine hret _ _ ?_
    exact ends1 (reads_tmp rfl) ⟨rfl, hX⟩
  | true =>
    have hl1 := Sp.light_len hL
    have hl2 := Sp.light_each hL
    intro Qf hnrm hret
    refine c_seqreg (fun K1 hK1 => ?_)
    refine s_val rfl rfl (runs_assign rfl) ?_
    refine s_nil ?_
    refine hK1 _ _ ?_
    refine c_seq (fun K2 hK2 => ?_)
    refine c_seqreg (fun K3 hK3 => ?_)
    refine s_callf (xs := []) rfl rfl Tryd.func12 rfl (by kernel_rfl) rfl (fit_calls B _ hG (by omega)) ?_
    rintro _ w1 ⟨rfl, X1_0⟩
    replace hG := hG.keep X1_0 (by simp)
    replace hX : Chg w _ [] := (hX.trans X1_0).mono (by intro k hk hlt; simp at hk ⊢ <;> first | omega | grind)
    have hz1 := X1_0.size
    refine s_val rfl rfl (runs_not rfl) ?_
    refine s_nil ?_
    refine hK3 _ _ ?_
    refine c_false rfl ?_
    refine c_skip ?_
    refine hK2 _ _ ?_
    refine c_seq (fun K5 hK5 => ?_)
    refine c_seqreg (fun K6 hK6 => ?_)
    refine s_val rfl rfl (runs_move rfl) ?_
    refine s_callf (xs := [.tmp 13]) rfl rfl Tryd.func13 rfl (by kernel_rfl) rfl (light_calls bss _ _ _ _ (hP.grow hX)) ?_
    rintro _ w3 ⟨rfl, X3_1⟩
    replace hG := hG.keep X3_1 (by simp)
    replace hX : Chg w _ [] := (hX.trans X3_1).mono (by intro k hk hlt; simp at hk ⊢ <;> first | omega | grind)
    have hz3 := X3_1.size
    rw [hL]
    refine s_val rfl rfl (runs_not rfl) ?_
    refine s_val rfl rfl (runs_move rfl) ?_
    refine s_val rfl rfl (runs_move rfl) ?_
    refine s_val rfl rfl (runs_len_slice Tryd.underlying22 rfl) ?_
    refine s_val rfl rfl (runs_eqd rfl rfl) ?_
    refine s_val rfl rfl (runs_pickf rfl rfl) ?_
    refine s_nil ?_
    refine hK6 _ _ ?_
    refine c_dec rfl (fun h0 => ?_) (fun h0 => ?_)
    · refine c_seqreg (fun K8 hK8 => ?_)
      refine s_val rfl rfl (runs_assign rfl) ?_
      refine s_nil ?_
      refine hK8 _ _ ?_
      refine c_ret ?_
      refine hret _ _ ?_
      exact ends1 (reads_tmp rfl) ⟨rfl, hX⟩
    · have hn0 : 0 < n := by omega
      refine c_skip ?_
      refine hK5 _ _ ?_
      refine c_seqdraw [] ([]) (by kernel_rfl) ?_
      intro K9 hK9 wd5 Xd5 hS5
      replace hG := hG.keep Xd5 (by simp)
      replace hX : Chg w _ [] := (hX.trans Xd5).mono (by intro k hk hlt; simp at hk ⊢ <;> first | omega | grind)
      have zd5 := Xd5.size
      refine d_take 0 21 rfl (by kernel_rfl) rfl hS5 (fun wS hS => runs_move rfl) ?_
      refine d_take 1 22 rfl (by kernel_rfl) rfl hS5 (fun wS hS => runs_and64 1023 rfl (by decide)) ?_
      refine d_take 2 23 rfl (by kernel_rfl) rfl hS5 (fun wS hS => runs_move rfl) ?_
      refine d_take 3 24 rfl (by kernel_rfl) rfl hS5 (fun wS hS => runs_len_slice Tryd.underlying22 rfl) ?_
      refine d_take 4 25 rfl (by kernel_rfl) rfl hS5 (fun wS hS => runs_as (v' := .int .i64 ((land64 ka 1023 % n : Nat) : Int)) (runs_rem64 rfl rfl (by omega) (by omega)) (congrArg (Value.int .i64) (by simp))) ?_
      refine d_take 5 26 rfl (by kernel_rfl) rfl hS5 (fun wS hS => runs_move rfl) ?_
      refine d_take 6 27 rfl (by kernel_rfl) rfl hS5 (fun wS hS => runs_and64 1023 rfl (by decide)) ?_
      refine d_take 7 28 rfl (by kernel_rfl) rfl hS5 (fun wS hS => runs_move rfl) ?_
      refine d_take 8 29 rfl (by kernel_rfl) rfl hS5 (fun wS hS => runs_len_slice Tryd.underlying22 rfl) ?_
      refine d_take 9 30 rfl (by kernel_rfl) rfl hS5 (fun wS hS => runs_as (v' := .int .i64 ((land64 kb 1023 % n : Nat) : Int)) (runs_rem64 rfl rfl (by omega) (by omega)) (congrArg (Value.int .i64) (by simp))) ?_
      refine d_take 10 1 rfl (by kernel_rfl) rfl hS5 (fun wS hS => runs_assign rfl) ?_
      refine d_take 11 2 rfl (by kernel_rfl) rfl hS5 (fun wS hS => runs_assign rfl) ?_
      refine d_done (by kernel_rfl) ?_
      replace hG := hG.keep hS5 (by simp)
      replace hX : Chg w _ [] := (hX.trans hS5).mono (by intro k hk hlt; simp at hk ⊢ <;> first | omega | grind)
      have hzX5 := hX.size
      obtain ⟨i, hi⟩ : ∃ i, i = land64 ka 1023 % n := ⟨_, rfl⟩
      obtain ⟨j, hj⟩ : ∃ j, j = land64 kb 1023 % n := ⟨_, rfl⟩
      have hin : i < n := by rw [hi]; exact Nat.mod_lt _ hn0
      have hjn : j < n := by rw [hj]; exact Nat.mod_lt _ hn0
      rw [← hi, ← hj]
      refine hK9 _ _ ?_
      refine c_seqreg (fun K10 hK10 => ?_)
      refine s_val rfl rfl (runs_build_zeroS (xs := #[(0, 1)]) Tryd.underlying37 ty37 rfl (by kernel_rfl)) ?_
      refine s_box rfl rfl rfl ?_
      intro bt w6 e6_1 z6_1 hbt X6_1
      have s6_1_hX := hX.size
      replace hG := hG.keep X6_1 (by simp)
      replace hX : Chg w _ [] := (hX.trans X6_1).mono (by intro k hk hlt; simp at hk ⊢ <;> first | omega | grind)
      replace hbt : Blk w6 bt ([.slice none 0 0]) 37 := hbt
      have hlbt := hbt.lt
      refine s_val rfl rfl (runs_assign rfl) ?_
      refine s_nil ?_
      have hzX6 := hX.size
      have hlbt := hbt.lt
      have hT := TL.new (B := B) (lo := w.heap.size) hbt (by omega) (by omega)
      refine hK10 _ _ ?_
      refine c_seqreg (fun K12 hK12 => ?_)
      refine s_val rfl rfl (runs_move rfl) ?_
      refine s_val rfl rfl (runs_move rfl) ?_
      refine s_callf (xs := [.tmp 33, .tmp 34]) rfl rfl Tryd.func19 rfl (by kernel_rfl) rfl (hT.noted [] (by simp) (by simp) (by omega) hG (by omega) (hP.grow hX) hL (fun W x => hP.grow ((hX.trans x).mono (by intro k hk hlt; have h := hT.arg.foot_hi _ (by simpa using hk); simp [Rg] at h <;> omega))) (by simp <;> omega)) ?_
      rintro vh w7 ⟨hown, M7, vt7, hT7, X7_2, hM7⟩
      replace hG := hG.keep X7_2 (fun k hk => by have h := hM7 k hk; simp [Rg] at h <;> omega)
      replace hX : Chg w _ [] := (hX.trans X7_2).mono (by intro k hk hlt; have h := hM7 k (by simpa using hk); simp [Rg] at h <;> omega)
      have zs7_2 := X7_2.size
      obtain ⟨hs, hhs⟩ : ∃ hs, hs = bss.map Sp.leaf := ⟨_, rfl⟩
      rw [← hhs] at hown
      have hsok : ∀ x ∈ hs, HOk x := by rw [hhs]; exact leaves_ok bss
      obtain ⟨g, ch, rfl, hB8, hgw⟩ := hsb_of_own hown hsok (by rw [hhs, List.length_map, hlen]) hn0
      have hT := hT7
      simp only [Value.ownBlock, Option.toList_some, List.append_nil, List.nil_append] at hT
      have hgl := hB8.lt
      have hsl : hs.length = n := hB8.len
      refine s_val rfl rfl (runs_assign rfl) ?_
      refine s_nil ?_
      refine hK12 _ _ ?_
      refine c_seqreg (fun K14 hK14 => ?_)
      refine s_val rfl rfl (runs_move rfl) ?_
      refine s_val rfl rfl (runs_move rfl) ?_
      refine s_callf (xs := [.tmp 36, .tmp 37]) rfl rfl Tryd.func15 rfl (by kernel_rfl) rfl (hT.root [g] (by simp) (by simp <;> omega) (by omega) hG (by omega) hB8.rd (fun p hp => by cases hp; exact .inr (by simp)) (by omega) (by simp <;> omega)) ?_
      rintro _ w8 ⟨rfl, M8, vt8, hT8, X8_2, hM8⟩
      replace hG := hG.keep X8_2 (fun k hk => by have h := hM8 k hk; simp [Rg] at h <;> omega)
      replace hX : Chg w _ [] := (hX.trans X8_2).mono (by intro k hk hlt; have h := hM8 k (by simpa using hk); simp [Rg] at h <;> omega)
      replace hB8 := hB8.keep X8_2 (fun hm => by have h := hM8 _ hm; simp [Rg] at h <;> omega)
      have zs8_2 := X8_2.size
      have hT := hT8
      refine s_alloc ty28 rfl rfl ?_
      intro b9 w83 e8_3 z8_3 hb9 X8_3
      have s8_3_hX := hX.size
      replace hG := hG.keep X8_3 (by simp)
      replace hX : Chg w _ [] := (hX.trans X8_3).mono (by intro k hk hlt; simp at hk ⊢ <;> first | omega | grind)
      replace hB8 := hB8.keep X8_3 (by simp)
      replace hT := hT.keep X8_3 (by simp)
      refine s_storeAll ty28 rfl rfl rfl hb9 (by rw [natsC_length, root_len _ hsok]) rfl (natsC_one _ _) ?_
      intro w84 z8_4 h8_4 X8_4
      replace hG := hG.keep X8_4 (by simp; omega)
      replace hX : Chg w _ [] := (hX.trans X8_4).mono (by intro k hk hlt; simp at hk ⊢ <;> first | omega | grind)
      replace hB8 := hB8.keep X8_4 (by simp; omega)
      replace hT := hT.keep X8_4 (by simp [Rg]; omega)
      replace hb9 := h8_4
      refine s_nil ?_
      obtain ⟨xi, hxi⟩ : ∃ x, hs[i]? = some x := ⟨_, List.getElem?_eq_getElem (by omega)⟩
      obtain ⟨xj, hxj⟩ : ∃ x, hs[j]? = some x := ⟨_, List.getElem?_eq_getElem (by omega)⟩
      have oki := hsok xi (List.mem_of_getElem? hxi)
      have okj := hsok xj (List.mem_of_getElem? hxj)
      have hcn := hB8.le
      have hlb9 := hb9.lt
      refine hK14 _ _ ?_
      refine c_seqdraw [13, 15] ([]) (by kernel_rfl) ?_
      intro K18 hK18 wd9 Xd9 hS9
      replace hG := hG.keep Xd9 (by simp)
      replace hX : Chg w _ [] := (hX.trans Xd9).mono (by intro k hk hlt; simp at hk ⊢ <;> first | omega | grind)
      replace hB8 := hB8.keep Xd9 (by simp)
      replace hT := hT.keep Xd9 (by simp)
      replace hb9 := hb9.keep Xd9 (by simp)
      have zd9 := Xd9.size
      refine d_take 0 39 rfl (by kernel_rfl) rfl hS9 (fun wS hS => runs_move rfl) ?_
      refine d_take 1 40 rfl (by kernel_rfl) rfl hS9 (fun wS hS => runs_move rfl) ?_
      refine d_pure 2 41 rfl (by kernel_rfl) rfl (fun wS _ => runs_move rfl) ?_
      refine d_pure 3 42 rfl (by kernel_rfl) rfl (fun wS _ => runs_move rfl) ?_
      refine d_take 4 43 rfl (by kernel_rfl) rfl hS9 (fun wS hS => runs_move rfl) ?_
      refine d_take 5 44 rfl (by kernel_rfl) rfl hS9 (fun wS hS => runs_move rfl) ?_
      refine d_take 6 45 rfl (by kernel_rfl) rfl hS9 (fun wS hS => runs_index_slice (j) Tryd.underlying25 ty28 rfl rfl (by omega) (by omega)) ?_
      refine d_take 7 46 rfl (by kernel_rfl) rfl hS9 (fun wS hS => runs_loadAgg ty28 rfl ((hB8.keep hS (by simp)).rd.elem hxj) (by rw [natsC_length, okj.1])) ?_
      refine d_pure 8 47 rfl (by kernel_rfl) rfl (fun wS _ => runs_move rfl) ?_
      refine d_pure 9 48 rfl (by kernel_rfl) rfl (fun wS _ => runs_move rfl) ?_
      refine d_pure 10 49 rfl (by kernel_rfl) rfl (fun wS _ => runs_index_slice (i) Tryd.underlying25 ty28 rfl rfl (by omega) (by omega)) ?_
      refine d_take 11 50 rfl (by kernel_rfl) rfl hS9 (fun wS hS => runs_loadAgg ty28 rfl ((hB8.keep hS (by simp)).rd.elem hxi) (by rw [natsC_length, oki.1])) ?_
      refine d_take 12 51 rfl (by kernel_rfl) rfl hS9 (fun wS hS => runs_index_slice (i) Tryd.underlying25 ty28 rfl rfl (by omega) (by omega)) ?_
      refine d_only 13 rfl (by kernel_rfl) ?_
      replace hG := hG.keep hS9 (by simp)
      replace hX : Chg w _ [] := (hX.trans hS9).mono (by intro k hk hlt; simp at hk ⊢ <;> first | omega | grind)
      replace hB8 := hB8.keep hS9 (by simp)
      replace hT := hT.keep hS9 (by simp)
      replace hb9 := hb9.keep hS9 (by simp)
      obtain ⟨r8, hblk8⟩ := hB8.blk
      have hfl : (natsC .u8 hs.flatten).length = n * 32 := by rw [natsC_length, flat32 hB8.ok, hB8.len]
      refine s_store ty28 rfl rfl rfl hblk8 (by simp [Value.cells, natsC_length, okj.1]) (by rw [List.length_append]; omega) (by simpa [Value.cells] using natsC_one _ _) ?_
      intro w91 zw91 hw91 Xw91
      replace hB8 := hB8.put okj hin hblk8 (by simpa [Value.cells] using hw91)
      replace hG := hG.keep Xw91 (by simp <;> omega)
      replace hX : Chg w _ [] := (hX.trans Xw91).mono (by intro k hk hlt; simp at hk; omega)
      replace hT := hT.keep Xw91 (by simp [Rg])
      replace hb9 := hb9.keep Xw91 (by simp <;> omega)
      refine s_nil ⟨.inl rfl, ?_⟩
      refine d_pure 14 52 rfl (by kernel_rfl) rfl (fun wS _ => runs_index_slice (j) Tryd.underlying25 ty28 rfl rfl (by omega) (by omega)) ?_
      refine d_only 15 rfl (by kernel_rfl) ?_
      obtain ⟨r8, hblk8⟩ := hB8.blk
      have hfl : (natsC .u8 (hs.set i xj).flatten).length = n * 32 := by rw [natsC_length, flat32 hB8.ok, hB8.len]
      refine s_store ty28 rfl rfl rfl hblk8 (by simp [Value.cells, natsC_length, oki.1]) (by rw [List.length_append]; omega) (by simpa [Value.cells] using natsC_one _ _) ?_
      intro w92 zw92 hw92 Xw92
      replace hB8 := hB8.put oki hjn hblk8 (by simpa [Value.cells] using hw92)
      replace hG := hG.keep Xw92 (by simp <;> omega)
      replace hX : Chg w _ [] := (hX.trans Xw92).mono (by intro k hk hlt; simp at hk; omega)
      replace hT := hT.keep Xw92 (by simp [Rg])
      replace hb9 := hb9.keep Xw92 (by simp <;> omega)
      refine s_nil ⟨.inl rfl, ?_⟩
      refine d_done (by kernel_rfl) ?_
      refine hK18 _ _ ?_
      refine c_seqreg (fun K21 hK21 => ?_)
      refine s_val rfl rfl (runs_move rfl) ?_
      refine s_val rfl rfl (runs_move rfl) ?_
      refine s_callf (xs := [.tmp 53, .tmp 54]) rfl rfl Tryd.func15 rfl (by kernel_rfl) rfl (hT.root [g, b9] (by simp <;> omega) (by simp <;> omega) (by omega) hG (by omega) hB8.rd (fun p hp => by cases hp; exact .inr (by simp)) (by omega) (by have := Sp.notes_le hs; simp <;> omega)) ?_
      rintro _ w10 ⟨rfl, M10, vt10, hT10, X10_2, hM10⟩
      replace hG := hG.keep X10_2 (fun k hk => by have h := hM10 k hk; simp [Rg] at h <;> omega)
      replace hX : Chg w _ [] := (hX.trans X10_2).mono (by intro k hk hlt; have h := hM10 k (by simpa using hk); simp [Rg] at h <;> omega)
      replace hB8 := hB8.keep X10_2 (fun hm => by have h := hM10 _ hm; simp [Rg] at h <;> omega)
      replace hb9 := hb9.keep X10_2 (fun hm => by have h := hM10 _ hm; simp [Rg] at h <;> omega)
      have zs10_2 := X10_2.size
      have hT := hT10
      refine s_alloc ty28 rfl rfl ?_
      intro b10 w103 e10_3 z10_3 hb10 X10_3
      have s10_3_hX := hX.size
      have s10_3_hb9 := hb9.lt
      replace hG := hG.keep X10_3 (by simp)
      replace hX : Chg w _ [] := (hX.trans X10_3).mono (by intro k hk hlt; simp at hk ⊢ <;> first | omega | grind)
      replace hB8 := hB8.keep X10_3 (by simp)
      replace hb9 := hb9.keep X10_3 (by simp)
      replace hT := hT.keep X10_3 (by simp)
      refine s_storeAll ty28 rfl rfl rfl hb10 (by rw [natsC_length, root_len _ hB8.ok]) rfl (natsC_one _ _) ?_
      intro w104 z10_4 h10_4 X10_4
      replace hG := hG.keep X10_4 (by simp; omega)
      replace hX : Chg w _ [] := (hX.trans X10_4).mono (by intro k hk hlt; simp at hk ⊢ <;> first | omega | grind)
      replace hB8 := hB8.keep X10_4 (by simp; omega)
      replace hb9 := hb9.keep X10_4 (by simp; omega)
      replace hT := hT.keep X10_4 (by simp [Rg]; omega)
      replace hb10 := h10_4
      refine s_nil ?_
      obtain ⟨vs, hvs, hho⟩ := (hP.grow hX).rd
      obtain ⟨ba, oa, rfl⟩ := hvs.some_ (by omega)
      obtain ⟨bi, hbi⟩ : ∃ bs, bss[i]? = some bs := ⟨_, List.getElem?_eq_getElem (by omega)⟩
      obtain ⟨bj, hbj⟩ : ∃ bs, bss[j]? = some bs := ⟨_, List.getElem?_eq_getElem (by omega)⟩
      obtain ⟨vi, hvi⟩ : ∃ v, vs[i]? = some v := ⟨_, List.getElem?_eq_getElem (by rw [hho.1]; omega)⟩
      obtain ⟨vj, hvj⟩ : ∃ v, vs[j]? = some v := ⟨_, List.getElem?_eq_getElem (by rw [hho.1]; omega)⟩
      obtain ⟨⟨ai, ci, rfl, hrbi⟩, hbil⟩ := hho.2 i vi bi hvi hbi
      obtain ⟨⟨aj, cj, rfl, hrbj⟩, hbjl⟩ := hho.2 j vj bj hvj hbj
      have hxi' : xi = Sp.leaf bi := by rw [hhs, List.getElem?_map, hbi] at hxi; exact (Option.some.inj hxi).symm
      have hxj' : xj = Sp.leaf bj := by rw [hhs, List.getElem?_map, hbj] at hxj; exact (Option.some.inj hxj).symm
      have ok2 := hB8.ok
      have hro := root_ok _ _ (Nat.le_refl _) hsok
      have hro2 := root_ok _ _ (Nat.le_refl _) ok2
      refine hK21 _ _ ?_
      refine c_seq (fun K25 hK25 => ?_)
      refine c_seqdraw [] ([]) (by kernel_rfl) ?_
      intro K26 hK26 wd11 Xd11 hS11
      replace hG := hG.keep Xd11 (by simp)
      replace hX : Chg w _ [] := (hX.trans Xd11).mono (by intro k hk hlt; simp at hk ⊢ <;> first | omega | grind)
      replace hB8 := hB8.keep Xd11 (by simp)
      replace hb9 := hb9.keep Xd11 (by simp)
      replace hT := hT.keep Xd11 (by simp)
      replace hb10 := hb10.keep Xd11 (by simp)
      have zd11 := Xd11.size
      replace hvs := hvs.grow Xd11
      replace hrbi := hrbi.grow Xd11
      replace hrbj := hrbj.grow Xd11
      refine d_take 0 56 rfl (by kernel_rfl) rfl hS11 (fun wS hS => runs_move rfl) ?_
      refine d_take 1 57 rfl (by kernel_rfl) rfl hS11 (fun wS hS => runs_move rfl) ?_
      refine d_take 2 58 rfl (by kernel_rfl) rfl hS11 (fun wS hS => runs_index_slice (i) Tryd.underlying22 ty32 rfl rfl (by omega) (by omega)) ?_
      refine d_take 3 59 rfl (by kernel_rfl) rfl hS11 (fun wS hS => runs_load1 ty32 rfl ((hvs.grow hS).elem1 hvi)) ?_
      refine d_take 4 60 rfl (by kernel_rfl) rfl hS11 (fun wS hS => runs_str rfl (hrbi.grow hS) hbil) ?_
      refine d_take 5 61 rfl (by kernel_rfl) rfl hS11 (fun wS hS => runs_move rfl) ?_
      refine d_take 6 62 rfl (by kernel_rfl) rfl hS11 (fun wS hS => runs_move rfl) ?_
      refine d_take 7 63 rfl (by kernel_rfl) rfl hS11 (fun wS hS => runs_index_slice (j) Tryd.underlying22 ty32 rfl rfl (by omega) (by omega)) ?_
      refine d_take 8 64 rfl (by kernel_rfl) rfl hS11 (fun wS hS => runs_load1 ty32 rfl ((hvs.grow hS).elem1 hvj)) ?_
      refine d_take 9 65 rfl (by kernel_rfl) rfl hS11 (fun wS hS => runs_str rfl (hrbj.grow hS) hbjl) ?_
      refine d_take 10 66 rfl (by kernel_rfl) rfl hS11 (fun wS hS => runs_streq rfl rfl) ?_
      refine d_done (by kernel_rfl) ?_
      replace hG := hG.keep hS11 (by simp)
      replace hX : Chg w _ [] := (hX.trans hS11).mono (by intro k hk hlt; simp at hk ⊢ <;> first | omega | grind)
      replace hB8 := hB8.keep hS11 (by simp)
      replace hb9 := hb9.keep hS11 (by simp)
      replace hT := hT.keep hS11 (by simp)
      replace hb10 := hb10.keep hS11 (by simp)
      refine hK26 _ _ ?_
      refine c_dec rfl (fun hst => ?_) (fun hst => ?_)
      · have hbe := bstr_inj hbil hbjl hst
        have hxe : xj = xi := by rw [hxi', hxj', hbe]
        have hsame : (hs.set i xj).set j xi = hs := by rw [hxe, set_same hxi, set_same (hxe ▸ hxj)]
        rw [hsame] at hb10
        refine c_seqreg (fun K27 hK27 => ?_)
        refine s_val rfl rfl (runs_loadAgg ty28 rfl hb10.at (by rw [natsC_length, hro.1])) ?_
        refine s_val rfl rfl (runs_loadAgg ty28 rfl hb9.at (by rw [natsC_length, hro.1])) ?_
        refine s_val rfl rfl (runs_dt (runs_hv_eq rfl rfl hro hro) rfl) ?_
        refine s_val rfl rfl (runs_assign rfl) ?_
        refine s_nil ?_
        refine hK27 _ _ ?_
        refine c_ret ?_
        refine hret _ _ ?_
        exact ends1 (reads_tmp rfl) ⟨rfl, hX⟩
      · have hbne : bi ≠ bj := fun e => hst (by rw [e])
        have hcl : Sp.root ((hs.set i xj).set j xi) = Sp.root hs → Sp.Clash (bss.map (0 :: ·) ++ Sp.notes hs ++ Sp.notes ((hs.set i xj).set j xi)) := by
          intro hr
          by_cases hxe : xi = xj
          · rw [hxi', hxj'] at hxe
            exact leaf_coll hxe hbne (by simp [List.mem_of_getElem? hbi]) (by simp [List.mem_of_getElem? hbj])
          · have hij : i ≠ j := fun e => by subst e; rw [hbi] at hbj; exact hbne (Option.some.inj hbj)
            have hne : (hs.set i xj).set j xi ≠ hs := fun e => by
              have h1 : ((hs.set i xj).set j xi)[i]? = hs[i]? := by rw [e]
              rw [List.getElem?_set_ne (Ne.symm hij), List.getElem?_set_self (by omega), hxi] at h1
              exact hxe (Option.some.inj h1).symm
            refine (root_coll _ _ _ (Nat.le_refl _) (by simp) ok2 hsok hr hne).mono fun z hz => ?_
            simp only [List.mem_append] at hz ⊢
            rcases hz with hz | hz <;> simp [hz]
        refine c_skip ?_
        refine hK25 _ _ ?_
        by_cases hr : Sp.root ((hs.set i xj).set j xi) = Sp.root hs
        · refine c_seqreg (fun K28 hK28 => ?_)
          refine s_val rfl rfl (runs_loadAgg ty28 rfl hb10.at (by rw [natsC_length, hro2.1])) ?_
          refine s_val rfl rfl (runs_loadAgg ty28 rfl hb9.at (by rw [natsC_length, hro.1])) ?_
          refine s_val rfl rfl (runs_df (runs_hv_ne rfl rfl hro2 hro) (fun h => h hr)) ?_
          refine s_val rfl rfl (runs_move rfl) ?_
          refine s_val rfl rfl (runs_move rfl) ?_
          refine s_callf (xs := [.tmp 74]) rfl rfl Tryd.func20 rfl (by kernel_rfl) rfl (hT.clash hG (by omega) (by
              intro x hx
              simp only [List.mem_append] at hx
              have h65 := notes_short _ hs (Nat.le_refl _) hsok x
              have h65' := notes_short _ _ (Nat.le_refl _) ok2 x
              have h101 := leaves_short hl2 x
              rcases hx with (hx | hx) | hx
              · have := h101 hx; omega
              · have := h65 hx; omega
              · have := h65' hx; omega)) ?_
          rintro _ w13 ⟨bc, rfl, hbc, X13_5⟩
          replace hG := hG.keep X13_5 (by simp)
          replace hX : Chg w _ [] := (hX.trans X13_5).mono (by intro k hk hlt; simp at hk ⊢ <;> first | omega | grind)
          replace hB8 := hB8.keep X13_5 (by simp)
          replace hb9 := hb9.keep X13_5 (by simp)
          replace hT := hT.keep X13_5 (by simp)
          replace hb10 := hb10.keep X13_5 (by simp)
          obtain rfl := hbc.2 (hcl hr)
          refine s_val rfl rfl (runs_pickf rfl rfl) ?_
          refine s_val rfl rfl (runs_assign rfl) ?_
          refine s_nil ?_
          refine hK28 _ _ ?_
          refine c_ret ?_
          refine hret _ _ ?_
          exact ends1 (reads_tmp rfl) ⟨rfl, hX⟩
        · refine c_seqreg (fun K28 hK28 => ?_)
          refine s_val rfl rfl (runs_loadAgg ty28 rfl hb10.at (by rw [natsC_length, hro2.1])) ?_
          refine s_val rfl rfl (runs_loadAgg ty28 rfl hb9.at (by rw [natsC_length, hro.1])) ?_
          refine s_val rfl rfl (runs_dt (runs_hv_ne rfl rfl hro2 hro) hr) ?_
          refine s_val rfl rfl (runs_move rfl) ?_
          refine s_skip rfl rfl ?_
          refine s_skip rfl rfl ?_
          refine s_val rfl rfl (runs_pickt rfl rfl) ?_
          refine s_val rfl rfl (runs_assign rfl) ?_
          refine s_nil ?_
          refine hK28 _ _ ?_
          refine c_ret ?_
          refine hret _ _ ?_
          exact ends1 (reads_tmp rfl) ⟨rfl, hX⟩
end Go.Proofs.YtecpedpfkdnfhaaDoor
