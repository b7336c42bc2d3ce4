/- Part Turned of the proofs on this seat. Conditions: none beyond those in the theorems. By an AI agent. -/
import Derived.Test.YtecpedpfkdnfhaaDoorLaw2
namespace Go.Proofs.YtecpedpfkdnfhaaDoor
open Go Go.RowKit

theorem rem_nat {a b : Nat} : ((a : Int) % (b : Int)) = ((a % b : Nat) : Int) := by simp
/-- The plain law. -/
theorem turned_law {hs gs p : List (List Nat)} {m : Nat} {L : List (List Nat)} (h0 : 0 < m) (hm : m < hs.length) (hl : gs.length = hs.length) (ok : ∀ x ∈ hs, HOk x) (ok' : ∀ x ∈ gs, HOk x) (okp : ∀ x ∈ p, HOk x) (hne : hs.take m ≠ gs.take m)
    (hg : Sp.isGrown m hs.length (Sp.root (hs.take m)) (Sp.root gs) p = true) (hL : ∀ x, x ∈ Sp.isGrownN m hs.length (Sp.root (hs.take m)) p ∨ x ∈ Sp.notes (hs.take m) ∨ x ∈ Sp.notes gs → x ∈ L) : Sp.Clash L := by
  have okt : ∀ x ∈ hs.take m, HOk x := fun x hx => ok x (List.mem_of_mem_take hx)
  have hb := isGrown_mid hg h0 hm
  rw [isGrownN_mid h0 hm] at hL
  have e : (hs.take m).length = m := by rw [List.length_take]; omega
  rcases both_coll _ (hs.take m) gs p true _ (Nat.le_refl _) (by omega) (by omega) okt ok' (root_ok _ _ (Nat.le_refl _) okt) okp (by rw [e, hl]; exact hb) with h | h
  · rw [e] at h; exact absurd h hne
  · rw [e, hl] at h
    refine h.mono fun x hx => hL x ?_
    simp only [List.mem_append] at hx
    rcases hx with (hx | hx) | hx
    · exact .inl hx
    · exact .inr (.inl hx)
    · exact .inr (.inr hx)

set_option maxHeartbeats 4000000 in
theorem turned_calls (B : Nat) (bss : List (List Nat)) (a : Option Addr) (n c : Nat) (km kt : Int) (w : World) (hG0 : GH B w) (hBw : B ≤ w.heap.size) (hP : Parts w a n c bss) :
    CallsR Tryd.prog 10 #[.slice a n c, .int .i64 km, .int .i64 kt] w fun v w' => v = .bool true ∧ Chg w w' [] := by
  have hlen := hP.length
  have hX : Chg w w [] := Chg.refl _ _
  have hG := hG0
  refine f_enter (l := [.slice a n c, .int .i64 km, .int .i64 kt]) Tryd.func10 rfl rfl rfl rfl ?_
  cases hL : Sp.light bss with
  | false =>
    intro Qf hnrm hret
    refine c_seqreg (fun K1 hK1 => ?_)
    refine s_val rfl rfl (runs_assign rfl) ?_
    refine s_nil ?_
    refine hK1 _ _ ?_
    refine c_seq (fun K2 hK2 => ?_)
    refine c_seqreg (fun K3 hK3 => ?_)
    refine s_callf (xs := []) rfl rfl Tryd.func12 rfl (by kernel_rfl) rfl (fit_calls B _ hG (by omega)) ?_
    rintro _ w1 ⟨rfl, X1_0⟩
    replace hG := hG.keep X1_0 (by simp)
    replace hX : Chg w _ [] := (hX.trans X1_0).mono (by intro k hk hlt; simp at hk ⊢ <;> first | omega | grind)
    have zs1_0 := X1_0.size
    refine s_val rfl rfl (runs_not rfl) ?_
    refine s_nil ?_
    refine hK3 _ _ ?_
    refine c_false rfl ?_
    refine c_skip ?_
    refine hK2 _ _ ?_
    refine c_seq (fun K5 hK5 => ?_)
    refine c_seqreg (fun K6 hK6 => ?_)
    refine s_val rfl rfl (runs_move rfl) ?_
    refine s_callf (xs := [.tmp 20]) rfl rfl Tryd.func13 rfl (by kernel_rfl) rfl (light_calls bss _ _ _ _ (hP.grow hX)) ?_
    rintro _ w3 ⟨rfl, X3_1⟩
    replace hG := hG.keep X3_1 (by simp)
    replace hX : Chg w _ [] := (hX.trans X3_1).mono (by intro k hk hlt; simp at hk ⊢ <;> first | omega | grind)
    have zs3_1 := X3_1.size
    rw [hL]
    refine s_val rfl rfl (runs_not rfl) ?_
    refine s_val rfl rfl (runs_move rfl) ?_
    refine s_skip rfl rfl ?_
    refine s_skip rfl rfl ?_
    refine s_skip rfl rfl ?_
    refine s_val rfl rfl (runs_pickt rfl rfl) ?_
    refine s_nil ?_
    refine hK6 _ _ ?_
    refine c_true rfl ?_
    refine c_seqreg (fun K8 hK8 => ?_)
    refine s_val rfl rfl (runs_assign rfl) ?_
    refine s_nil ?_
    refine hK8 _ _ ?_
    refine c_ret ?_
    refine hret _ _ ?_
    exact ends1 (reads_tmp rfl) ⟨rfl, hX⟩
  | true =>
    have hl1 := Sp.light_len hL
    have hl2 := Sp.light_each hL
    intro Qf hnrm hret
    refine c_seqreg (fun K1 hK1 => ?_)
    refine s_val rfl rfl (runs_assign rfl) ?_
    refine s_nil ?_
    refine hK1 _ _ ?_
    refine c_seq (fun K2 hK2 => ?_)
    refine c_seqreg (fun K3 hK3 => ?_)
    refine s_callf (xs := []) rfl rfl Tryd.func12 rfl (by kernel_rfl) rfl (fit_calls B _ hG (by omega)) ?_
    rintro _ w1 ⟨rfl, X1_0⟩
    replace hG := hG.keep X1_0 (by simp)
    replace hX : Chg w _ [] := (hX.trans X1_0).mono (by intro k hk hlt; simp at hk ⊢ <;> first | omega | grind)
    have zs1_0 := X1_0.size
    refine s_val rfl rfl (runs_not rfl) ?_
    refine s_nil ?_
    refine hK3 _ _ ?_
    refine c_false rfl ?_
    refine c_skip ?_
    refine hK2 _ _ ?_
    refine c_seq (fun K5 hK5 => ?_)
    refine c_seqreg (fun K6 hK6 => ?_)
    refine s_val rfl rfl (runs_move rfl) ?_
    refine s_callf (xs := [.tmp 20]) rfl rfl Tryd.func13 rfl (by kernel_rfl) rfl (light_calls bss _ _ _ _ (hP.grow hX)) ?_
    rintro _ w3 ⟨rfl, X3_1⟩
    replace hG := hG.keep X3_1 (by simp)
    replace hX : Chg w _ [] := (hX.trans X3_1).mono (by intro k hk hlt; simp at hk ⊢ <;> first | omega | grind)
    have zs3_1 := X3_1.size
    rw [hL]
    refine s_val rfl rfl (runs_not rfl) ?_
    refine s_val rfl rfl (runs_move rfl) ?_
    refine s_val rfl rfl (runs_move rfl) ?_
    refine s_val rfl rfl (runs_len_slice Tryd.underlying22 rfl) ?_
    refine s_val rfl rfl (runs_lt rfl rfl) ?_
    refine s_val rfl rfl (runs_pickf rfl rfl) ?_
    refine s_nil ?_
    refine hK6 _ _ ?_
    refine c_dec rfl (fun h0 => ?_) (fun h0 => ?_)
    · refine c_seqreg (fun K8 hK8 => ?_)
      refine s_val rfl rfl (runs_assign rfl) ?_
      refine s_nil ?_
      refine hK8 _ _ ?_
      refine c_ret ?_
      refine hret _ _ ?_
      exact ends1 (reads_tmp rfl) ⟨rfl, hX⟩
    · have hn0 : 0 < n := by omega
      refine c_skip ?_
      refine hK5 _ _ ?_
      refine c_seqreg (fun K9 hK9 => ?_)
      refine s_val rfl rfl (runs_build_zeroS (xs := #[(0, 1)]) Tryd.underlying37 ty37 rfl (by kernel_rfl)) ?_
      refine s_box rfl rfl rfl ?_
      intro bt w5t e5_1 z5_1 hbt X5_1
      have s5_1_hX := hX.size
      replace hG := hG.keep X5_1 (by simp)
      replace hX : Chg w _ [] := (hX.trans X5_1).mono (by intro k hk hlt; simp at hk ⊢ <;> first | omega | grind)
      replace hbt : Blk w5t bt ([.slice none 0 0]) 37 := hbt
      have hlbt := hbt.lt
      have hT := TL.new (B := B) (lo := w.heap.size) hbt (by omega) (by omega)
      refine s_val rfl rfl (runs_assign rfl) ?_
      refine s_nil ?_
      refine hK9 _ _ ?_
      refine c_seqreg (fun K11 hK11 => ?_)
      refine s_val rfl rfl (runs_move rfl) ?_
      refine s_val rfl rfl (runs_move rfl) ?_
      refine s_callf (xs := [.tmp 30, .tmp 31]) rfl rfl Tryd.func19 rfl (by kernel_rfl) rfl (hT.noted hG (by omega) (hP.grow hX) hL (fun W x => hP.grow ((hX.trans x).mono (by intro k hk hlt; have h := hT.ft _ (by simpa using hk); simp [Rg] at h <;> omega))) (by simp <;> omega)) ?_
      rintro vh w7 ⟨hown, vt7, hC7⟩
      replace hG := hG.keep hC7.chg (fun k hk => by have h := hC7.ft k hk; simp [Rg] at h <;> omega)
      replace hX : Chg w _ [] := (hX.trans hC7.chg).mono (by intro k hk hlt; have h := hC7.ft k (by simpa using hk); simp [Rg] at h <;> omega)
      have zs6_2 := hC7.chg.size
      obtain ⟨hs, hhs⟩ : ∃ hs, hs = bss.map Sp.leaf := ⟨_, rfl⟩
      rw [← hhs] at hown
      have hsok : ∀ x ∈ hs, HOk x := by rw [hhs]; exact leaves_ok bss
      obtain ⟨g, ch, rfl, hB8, hgw⟩ := hsb_of_own hown hsok (by rw [hhs, List.length_map, hlen]) hn0
      have hT := hC7.tl
      simp only [Value.ownBlock, Option.toList_some, List.append_nil, List.nil_append] at hT
      have hgl := hB8.lt
      have hsl : hs.length = n := hB8.len
      have hcn := hB8.le
      refine s_val rfl rfl (runs_assign rfl) ?_
      refine s_nil ?_
      have hzX6 := hX.size
      obtain ⟨m, hm⟩ : ∃ m, m = land64 km 1023 % (n - 1) + 1 := ⟨_, rfl⟩
      obtain ⟨i, hi⟩ : ∃ i, i = land64 kt 1023 % m := ⟨_, rfl⟩
      have hmn : m < n := by have := Nat.mod_lt (land64 km 1023) (show 0 < n - 1 by omega); omega
      have him : i < m := by rw [hi]; exact Nat.mod_lt _ (by omega)
      refine hK11 _ _ ?_
      refine c_seqreg (fun K13 hK13 => ?_)
      refine s_val rfl rfl (runs_move rfl) ?_
      refine s_val rfl rfl (runs_and64 1023 rfl (by decide)) ?_
      refine s_val rfl rfl (runs_move rfl) ?_
      refine s_val rfl rfl (runs_len_slice Tryd.underlying25 rfl) ?_
      refine s_val rfl rfl (runs_as (v' := .int .i64 ((n - 1 : Nat) : Int)) (runs_sub64 rfl rfl (by omega)) (congrArg (Value.int .i64) (by omega))) ?_
      refine s_val rfl rfl (runs_as (v' := .int .i64 ((land64 km 1023 % (n - 1) : Nat) : Int)) (runs_rem64 rfl rfl (by omega) (by omega)) (congrArg (Value.int .i64) rem_nat)) ?_
      refine s_val rfl rfl (runs_as (v' := .int .i64 (m : Int)) (runs_add64 rfl rfl (by omega)) (congrArg (Value.int .i64) (by omega))) ?_
      refine s_val rfl rfl (runs_assign rfl) ?_
      refine s_nil ?_
      refine hK13 _ _ ?_
      refine c_seqreg (fun K14 hK14 => ?_)
      refine s_val rfl rfl (runs_move rfl) ?_
      refine s_val rfl rfl (runs_and64 1023 rfl (by decide)) ?_
      refine s_val rfl rfl (runs_move rfl) ?_
      refine s_val rfl rfl (runs_as (v' := .int .i64 (i : Int)) (runs_rem64 rfl rfl (by omega) (by omega)) (congrArg (Value.int .i64) (by rw [hi]; exact rem_nat))) ?_
      refine s_val rfl rfl (runs_assign rfl) ?_
      refine s_nil ?_
      refine hK14 _ _ ?_
      refine c_seqreg (fun K15 hK15 => ?_)
      refine s_val rfl rfl (runs_move rfl) ?_
      refine s_append Tryd.underlying25 ty28 rfl (by decide) rfl rfl rfl (World.ownsRow_nil _ w7.heap.size _ _) rfl hB8.rd.rd (natsC_one _ _) (by simp only [maxLen]; omega) (by omega) (by omega) ?_
      intro v9 w9 H9_1 X9_1 F9_1
      replace X9_1 : Chg _ _ [] := X9_1
      replace hG := hG.keep X9_1 (by simp)
      replace hX : Chg w _ [] := (hX.trans X9_1).mono (by intro k hk hlt; simp at hk ⊢ <;> first | omega | grind)
      replace hB8 := hB8.keep X9_1 (by simp)
      replace hT := hT.keep X9_1 (by simp)
      have hs9 := X9_1.size
      obtain ⟨g9, c9, rfl, hB9, hg9⟩ := hsb_copy H9_1 hsok hsl hn0
      have hl9 := hB9.lt
      refine s_val rfl rfl (runs_assign rfl) ?_
      refine s_nil ?_
      obtain ⟨x, hx⟩ : ∃ x, hs[i]? = some x := ⟨_, List.getElem?_eq_getElem (by omega)⟩
      have okx := hsok x (List.mem_of_getElem? hx)
      have hc9 := hB9.le
      refine hK15 _ _ ?_
      refine c_seqdraw [8] ([]) (by kernel_rfl) ?_
      intro K17 hK17 wd10 Xd10 hS10
      replace hG := hG.keep Xd10 (by simp)
      replace hX : Chg w _ [] := (hX.trans Xd10).mono (by intro k hk hlt; simp at hk ⊢ <;> first | omega | grind)
      replace hB8 := hB8.keep Xd10 (by simp)
      replace hT := hT.keep Xd10 (by simp)
      replace hB9 := hB9.keep Xd10 (by simp)
      have zd10 := Xd10.size
      refine d_take 0 46 rfl (by kernel_rfl) rfl hS10 (fun wS hS => runs_move rfl) ?_
      refine d_take 1 47 rfl (by kernel_rfl) rfl hS10 (fun wS hS => runs_move rfl) ?_
      refine d_take 2 48 rfl (by kernel_rfl) rfl hS10 (fun wS hS => runs_index_slice (i) Tryd.underlying25 ty28 rfl rfl (by omega) (by omega)) ?_
      refine d_take 3 49 rfl (by kernel_rfl) rfl hS10 (fun wS hS => runs_index_array (0) Tryd.underlying28 ty5 rfl rfl (by omega) (by omega)) ?_
      refine d_take 4 50 rfl (by kernel_rfl) rfl hS10 (fun wS hS => runs_load1 ty5 rfl ((hB9.keep hS (by simp)).byte hx (by decide))) ?_
      refine d_take 5 51 rfl (by kernel_rfl) rfl hS10 (fun wS hS => runs_inc8 rfl) ?_
      refine d_only 6 rfl (by kernel_rfl) ?_
      refine s_val rfl rfl (runs_index_slice (i) Tryd.underlying25 ty28 rfl rfl (by omega) (by omega)) ?_
      refine s_nil ⟨.inr hS10, ?_⟩
      refine d_take 7 53 rfl (by kernel_rfl) rfl hS10 (fun wS hS => runs_index_array (0) Tryd.underlying28 ty5 rfl rfl (by omega) (by omega)) ?_
      refine d_only 8 rfl (by kernel_rfl) ?_
      replace hG := hG.keep hS10 (by simp)
      replace hX : Chg w _ [] := (hX.trans hS10).mono (by intro k hk hlt; simp at hk ⊢ <;> first | omega | grind)
      replace hB8 := hB8.keep hS10 (by simp)
      replace hT := hT.keep hS10 (by simp)
      replace hB9 := hB9.keep hS10 (by simp)
      obtain ⟨r9, hblk9⟩ := hB9.blk
      have hfl : (natsC .u8 hs.flatten).length = n * 32 := by rw [natsC_length, flat32 hsok, hsl]
      refine s_store1 ty5 rfl rfl rfl hblk9 (by rfl) (by rw [List.length_append]; omega) ?_
      intro w10 z10 h10 X10
      replace hB9 := hB9.bump hx (by decide) hblk9 h10
      replace hG := hG.keep X10 (by simp <;> omega)
      replace hX : Chg w _ [] := (hX.trans X10).mono (by intro k hk hlt; simp at hk; omega)
      replace hT := hT.keep X10 (by simp [Rg] <;> omega)
      replace hB8 := hB8.keep X10 (by simp; omega)
      refine s_nil ⟨.inl rfl, ?_⟩
      refine d_done (by kernel_rfl) ?_
      obtain ⟨gs, hgs⟩ : ∃ gs, gs = hs.set i (Sp.bump x 0) := ⟨_, rfl⟩
      rw [← hgs] at hB9
      have gok := hB9.ok
      have gsl : gs.length = n := hB9.len
      have hne : hs.take m ≠ gs.take m := fun e => by
        have h1 : (hs.take m)[i]? = (gs.take m)[i]? := by rw [e]
        rw [List.getElem?_take, if_pos him, List.getElem?_take, if_pos him, hx, hgs, List.getElem?_set_self (by omega)] at h1
        exact bump_ne okx (by decide) (Option.some.inj h1).symm
      obtain ⟨w6x, hw6x⟩ : ∃ W : World, W = w10 := ⟨_, rfl⟩
      have hw6s : w6x.heap.size = w10.heap.size := by rw [hw6x]
      have htok : ∀ x ∈ hs.take m, HOk x := fun x hx => hsok x (List.mem_of_mem_take hx)
      have gtok : ∀ x ∈ gs.take m, HOk x := fun x hx => gok x (List.mem_of_mem_take hx)
      have hro := root_len _ htok
      have hro2 := root_len _ gok
      refine hK17 _ _ ?_
      refine c_seqreg (fun K19 hK19 => ?_)
      refine s_val rfl rfl (runs_move rfl) ?_
      refine s_val rfl rfl (runs_move rfl) ?_
      refine s_callf (xs := [.const (.pointer none), .tmp 55, .tmp 56]) rfl rfl Tryd.func24 rfl (by kernel_rfl) rfl (grows_calls B m hs _ n _ _ hG (by omega) hB8.rd (by omega) (by omega)) ?_
      rintro _ w11 ⟨vp, rfl, hovp, X11_2⟩
      replace hG := hG.keep X11_2 (by simp)
      replace hX : Chg w _ [] := (hX.trans X11_2).mono (by intro k hk hlt; simp at hk ⊢ <;> first | omega | grind)
      replace hB8 := hB8.keep X11_2 (by simp)
      replace hT := hT.keep X11_2 (by simp)
      replace hB9 := hB9.keep X11_2 (by simp)
      have zs11_2 := X11_2.size
      obtain ⟨p, hp⟩ : ∃ p, p = Sp.grown m hs := ⟨_, rfl⟩
      rw [← hp] at hovp
      have okp : ∀ x ∈ p, HOk x := by rw [hp]; exact grown_ok m hs (by omega) hsok
      obtain ⟨ap, cap, rfl, hHp, hobp⟩ := own_hs hovp okp rfl
      obtain ⟨lp, hlp⟩ : ∃ l, l = (ap.map (·.block)).toList := ⟨_, rfl⟩
      have hinp : ∀ p, ap = some p → p.block ∈ lp := fun p hp => by rw [hlp, hp]; simp
      have hltp : ∀ x ∈ lp, w6x.heap.size ≤ x ∧ x < w11.heap.size := fun x hx => by
        rw [hlp] at hx
        have := hovp.lt x (by rw [hobp]; simpa using hx)
        omega
      have hlp : p.length ≤ n + 1 := by have := grown_len m hs (by omega); rw [hp]; omega
      refine s_val rfl rfl (runs_move rfl) ?_
      refine s_val rfl rfl (runs_extract rfl rfl) ?_
      refine s_val rfl rfl (runs_extract rfl rfl) ?_
      refine s_val rfl rfl (runs_assign rfl) ?_
      refine s_val rfl rfl (runs_assign rfl) ?_
      refine s_nil ?_
      refine hK19 _ _ ?_
      refine c_seqreg (fun K21 hK21 => ?_)
      refine s_val rfl rfl (runs_move rfl) ?_
      refine s_val rfl rfl (runs_move rfl) ?_
      refine s_callf (xs := [.const (.pointer none), .tmp 61, .tmp 62]) rfl rfl Tryd.func24 rfl (by kernel_rfl) rfl (grows_calls B m gs _ n _ _ hG (by omega) hB9.rd (by omega) (by omega)) ?_
      rintro _ w12 ⟨vq, rfl, hovq, X12_2⟩
      replace hG := hG.keep X12_2 (by simp)
      replace hX : Chg w _ [] := (hX.trans X12_2).mono (by intro k hk hlt; simp at hk ⊢ <;> first | omega | grind)
      replace hB8 := hB8.keep X12_2 (by simp)
      replace hT := hT.keep X12_2 (by simp)
      replace hB9 := hB9.keep X12_2 (by simp)
      replace hHp := hHp.keep0 X12_2
      have zs12_2 := X12_2.size
      obtain ⟨q, hq⟩ : ∃ p, p = Sp.grown m gs := ⟨_, rfl⟩
      rw [← hq] at hovq
      have okq : ∀ x ∈ q, HOk x := by rw [hq]; exact grown_ok m gs (by omega) gok
      obtain ⟨aq, caq, rfl, hHq, hobq⟩ := own_hs hovq okq rfl
      obtain ⟨lq, hlq⟩ : ∃ l, l = (aq.map (·.block)).toList := ⟨_, rfl⟩
      have hinq : ∀ p, aq = some p → p.block ∈ lq := fun p hp => by rw [hlq, hp]; simp
      have hltq : ∀ x ∈ lq, w6x.heap.size ≤ x ∧ x < w12.heap.size := fun x hx => by
        rw [hlq] at hx
        have := hovq.lt x (by rw [hobq]; simpa using hx)
        omega
      have hlq : q.length ≤ n + 1 := by have := grown_len m gs (by omega); rw [hq]; omega
      refine s_val rfl rfl (runs_move rfl) ?_
      refine s_val rfl rfl (runs_extract rfl rfl) ?_
      refine s_val rfl rfl (runs_extract rfl rfl) ?_
      refine s_val rfl rfl (runs_assign rfl) ?_
      refine s_val rfl rfl (runs_assign rfl) ?_
      refine s_nil ?_
      refine hK21 _ _ ?_
      refine c_seqreg (fun K23 hK23 => ?_)
      refine s_val rfl rfl (runs_move rfl) ?_
      refine s_val rfl rfl (runs_move rfl) ?_
      refine s_callf (xs := [.tmp 66, .tmp 67]) rfl rfl Tryd.func15 rfl (by kernel_rfl) rfl (hT.root (g9 :: (lp ++ lq)) (by intro x hx; simp only [List.mem_cons, List.mem_append] at hx; rcases hx with rfl | hx | hx; omega; have := hltp x hx; omega; have := hltq x hx; omega) hG (by omega) hB8.rd (fun p hp => by cases hp; exact .inr (by simp)) (by omega) (by simp <;> omega)) ?_
      rintro _ w13 ⟨rfl, vt13, hC13⟩
      replace hG := hG.keep hC13.chg (fun k hk => by have h := hC13.ft k hk; simp [Rg] at h <;> omega)
      replace hX : Chg w _ [] := (hX.trans hC13.chg).mono (by intro k hk hlt; have h := hC13.ft k (by simpa using hk); simp [Rg] at h <;> omega)
      replace hB8 := hB8.keep hC13.chg (fun hm => by have h := hC13.ft _ hm; simp [Rg] at h <;> omega)
      replace hB9 := hB9.keep hC13.chg (fun hm => by have h := hC13.ft _ hm; simp [Rg] at h <;> omega)
      replace hHp := hHp.keep hC13.chg (fun p hp hm => by have h := hC13.ft _ hm; exact h.2.2 (by simp [hinp p hp]))
      replace hHq := hHq.keep hC13.chg (fun p hp hm => by have h := hC13.ft _ hm; exact h.2.2 (by simp [hinq p hp]))
      have zs13_2 := hC13.chg.size
      have hT := hC13.tl
      have hn1 := Sp.notes_le hs
      refine s_nil ?_
      refine hK23 _ _ ?_
      refine c_seqreg (fun K25 hK25 => ?_)
      refine s_val rfl rfl (runs_move rfl) ?_
      refine s_val rfl rfl (runs_move rfl) ?_
      refine s_val rfl rfl (runs_move rfl) ?_
      refine s_val rfl rfl (runs_slice_to (m) Tryd.underlying25 ty28 rfl rfl (by omega) (by omega)) ?_
      refine s_callf (xs := [.tmp 69, .tmp 72]) rfl rfl Tryd.func15 rfl (by kernel_rfl) rfl (hT.root [] (by simp) hG (by omega) (hB8.rd.to_ m (by omega)) (fun p hp => by cases hp; exact .inr (by simp)) (by omega) (by simp <;> omega)) ?_
      rintro _ w14 ⟨rfl, vt14, hC14⟩
      replace hG := hG.keep hC14.chg (fun k hk => by have h := hC14.ft k hk; simp [Rg] at h <;> omega)
      replace hX : Chg w _ [] := (hX.trans hC14.chg).mono (by intro k hk hlt; have h := hC14.ft k (by simpa using hk); simp [Rg] at h <;> omega)
      replace hB8 := hB8.keep hC14.chg (fun hm => by have h := hC14.ft _ hm; simp [Rg] at h <;> omega)
      replace hB9 := hB9.keep hC14.chg (fun hm => by have h := hC14.ft _ hm; simp [Rg] at h <;> omega)
      replace hHp := hHp.keep hC14.chg (fun p hp hm => by have h := hC14.ft _ hm; exact h.2.2 (by simp [hinp p hp]))
      replace hHq := hHq.keep hC14.chg (fun p hp hm => by have h := hC14.ft _ hm; exact h.2.2 (by simp [hinq p hp]))
      have zs14_4 := hC14.chg.size
      have hT := hC14.tl
      have hn2 := Sp.notes_le (hs.take m)
      rw [List.length_take] at hn2
      refine s_alloc ty28 rfl rfl ?_
      intro b14 w145a e14_5 z14_5 hb14 X14_5
      have s14_5_hX := hX.size
      replace hG := hG.keep X14_5 (by simp)
      replace hX : Chg w _ [] := (hX.trans X14_5).mono (by intro k hk hlt; simp at hk ⊢ <;> first | omega | grind)
      replace hB8 := hB8.keep X14_5 (by simp)
      replace hB9 := hB9.keep X14_5 (by simp)
      replace hHp := hHp.keep0 X14_5
      replace hHq := hHq.keep0 X14_5
      replace hT := hT.keep X14_5 (by simp)
      refine s_storeAll ty28 rfl rfl rfl hb14 (by rw [natsC_length, hro]) rfl (natsC_one _ _) ?_
      intro w145s z14_6 h14_6 X14_6
      replace hG := hG.keep X14_6 (by simp; omega)
      replace hX : Chg w _ [] := (hX.trans X14_6).mono (by intro k hk hlt; simp at hk ⊢ <;> first | omega | grind)
      replace hB8 := hB8.keep X14_6 (by simp; omega)
      replace hB9 := hB9.keep X14_6 (by simp; omega)
      replace hHp := hHp.keep X14_6 (fun p hp => by have := hltp _ (hinp p hp); simp; omega)
      replace hHq := hHq.keep X14_6 (fun p hp => by have := hltq _ (hinq p hp); simp; omega)
      replace hT := hT.keep X14_6 (by simp [Rg] <;> omega)
      replace hb14 := h14_6
      refine s_nil ?_
      refine hK25 _ _ ?_
      refine c_seqreg (fun K29 hK29 => ?_)
      refine s_val rfl rfl (runs_move rfl) ?_
      refine s_val rfl rfl (runs_move rfl) ?_
      refine s_callf (xs := [.tmp 74, .tmp 75]) rfl rfl Tryd.func15 rfl (by kernel_rfl) rfl (hT.root [b14] (by simp <;> omega) hG (by omega) hB9.rd (fun p hp => by cases hp; exact .inr (by simp)) (by omega) (by simp <;> omega)) ?_
      rintro _ w15 ⟨rfl, vt15, hC15⟩
      replace hG := hG.keep hC15.chg (fun k hk => by have h := hC15.ft k hk; simp [Rg] at h <;> omega)
      replace hX : Chg w _ [] := (hX.trans hC15.chg).mono (by intro k hk hlt; have h := hC15.ft k (by simpa using hk); simp [Rg] at h <;> omega)
      replace hB8 := hB8.keep hC15.chg (fun hm => by have h := hC15.ft _ hm; simp [Rg] at h <;> omega)
      replace hB9 := hB9.keep hC15.chg (fun hm => by have h := hC15.ft _ hm; simp [Rg] at h <;> omega)
      replace hHp := hHp.keep hC15.chg (fun p hp hm => by have h := hC15.ft _ hm; exact h.2.2 (by simp [hinp p hp]))
      replace hHq := hHq.keep hC15.chg (fun p hp hm => by have h := hC15.ft _ hm; exact h.2.2 (by simp [hinq p hp]))
      replace hb14 := hb14.keep hC15.chg (fun hm => by have h := hC15.ft _ hm; simp [Rg] at h <;> omega)
      have zs15_2 := hC15.chg.size
      have hT := hC15.tl
      have hn3 := Sp.notes_le gs
      refine s_alloc ty28 rfl rfl ?_
      intro b15 w153a e15_3 z15_3 hb15 X15_3
      have s15_3_hX := hX.size
      have s15_3_hb14 := hb14.lt
      replace hG := hG.keep X15_3 (by simp)
      replace hX : Chg w _ [] := (hX.trans X15_3).mono (by intro k hk hlt; simp at hk ⊢ <;> first | omega | grind)
      replace hB8 := hB8.keep X15_3 (by simp)
      replace hB9 := hB9.keep X15_3 (by simp)
      replace hHp := hHp.keep0 X15_3
      replace hHq := hHq.keep0 X15_3
      replace hb14 := hb14.keep X15_3 (by simp)
      replace hT := hT.keep X15_3 (by simp)
      refine s_storeAll ty28 rfl rfl rfl hb15 (by rw [natsC_length, hro2]) rfl (natsC_one _ _) ?_
      intro w153s z15_4 h15_4 X15_4
      replace hG := hG.keep X15_4 (by simp; omega)
      replace hX : Chg w _ [] := (hX.trans X15_4).mono (by intro k hk hlt; simp at hk ⊢ <;> first | omega | grind)
      replace hB8 := hB8.keep X15_4 (by simp; omega)
      replace hB9 := hB9.keep X15_4 (by simp; omega)
      replace hHp := hHp.keep X15_4 (fun p hp => by have := hltp _ (hinp p hp); simp; omega)
      replace hHq := hHq.keep X15_4 (fun p hp => by have := hltq _ (hinq p hp); simp; omega)
      replace hb14 := hb14.keep X15_4 (by simp; omega)
      replace hT := hT.keep X15_4 (by simp [Rg] <;> omega)
      replace hb15 := h15_4
      refine s_nil ?_
      refine hK29 _ _ ?_
      refine c_seqreg (fun K33 hK33 => ?_)
      refine s_val rfl rfl (runs_move rfl) ?_
      refine s_val rfl rfl (runs_move rfl) ?_
      refine s_val rfl rfl (runs_move rfl) ?_
      refine s_val rfl rfl (runs_slice_to (m) Tryd.underlying25 ty28 rfl rfl (by omega) (by omega)) ?_
      refine s_callf (xs := [.tmp 77, .tmp 80]) rfl rfl Tryd.func15 rfl (by kernel_rfl) rfl (hT.root [b15] (by simp <;> omega) hG (by omega) (hB9.rd.to_ m (by omega)) (fun p hp => by cases hp; exact .inr (by simp)) (by omega) (by simp <;> omega)) ?_
      rintro _ w16 ⟨rfl, vt16, hC16⟩
      replace hG := hG.keep hC16.chg (fun k hk => by have h := hC16.ft k hk; simp [Rg] at h <;> omega)
      replace hX : Chg w _ [] := (hX.trans hC16.chg).mono (by intro k hk hlt; have h := hC16.ft k (by simpa using hk); simp [Rg] at h <;> omega)
      replace hB8 := hB8.keep hC16.chg (fun hm => by have h := hC16.ft _ hm; simp [Rg] at h <;> omega)
      replace hB9 := hB9.keep hC16.chg (fun hm => by have h := hC16.ft _ hm; simp [Rg] at h <;> omega)
      replace hHp := hHp.keep hC16.chg (fun p hp hm => by have h := hC16.ft _ hm; exact h.2.2 (by simp [hinp p hp]))
      replace hHq := hHq.keep hC16.chg (fun p hp hm => by have h := hC16.ft _ hm; exact h.2.2 (by simp [hinq p hp]))
      replace hb14 := hb14.keep hC16.chg (fun hm => by have h := hC16.ft _ hm; simp [Rg] at h <;> omega)
      replace hb15 := hb15.keep hC16.chg (fun hm => by have h := hC16.ft _ hm; simp [Rg] at h <;> omega)
      have zs16_4 := hC16.chg.size
      have hT := hC16.tl
      have hn4 := Sp.notes_le (gs.take m)
      rw [List.length_take] at hn4
      refine s_nil ?_
      obtain ⟨L, hLL⟩ : ∃ L, L = bss.map (0 :: ·) ++ Sp.notes hs ++ Sp.notes (hs.take m) ++ Sp.notes gs ++ Sp.notes (gs.take m) := ⟨_, rfl⟩
      rw [← hLL] at hT
      have hLl : L.length ≤ 400 := by rw [hLL]; simp; omega
      have hLs : ∀ x ∈ L, x.length ≤ 101 := by
        intro x hx
        rw [hLL] at hx
        simp only [List.mem_append] at hx
        have h1 := leaves_short hl2 x
        have h2 := notes_short _ hs (Nat.le_refl _) hsok x
        have h3 := notes_short _ _ (Nat.le_refl _) htok x
        have h4 := notes_short _ gs (Nat.le_refl _) gok x
        have h5 := notes_short _ _ (Nat.le_refl _) gtok x
        rcases hx with (((hx | hx) | hx) | hx) | hx
        · exact h1 hx
        · have := h2 hx; omega
        · have := h3 hx; omega
        · have := h4 hx; omega
        · have := h5 hx; omega
      have hft := hT.ft
      refine hK33 _ _ ?_
      refine c_seqdraw [] ((foot (some (bt, vt16, L)))) (by kernel_rfl) ?_
      intro K35 hK35 wd17 Xd17 hS17
      replace hG := hG.keep Xd17 (by simp)
      replace hX : Chg w _ [] := (hX.trans Xd17).mono (by intro k hk hlt; simp at hk ⊢ <;> first | omega | grind)
      replace hB8 := hB8.keep Xd17 (by simp)
      replace hB9 := hB9.keep Xd17 (by simp)
      replace hHp := hHp.keep0 Xd17
      replace hHq := hHq.keep0 Xd17
      replace hb14 := hb14.keep Xd17 (by simp)
      replace hb15 := hb15.keep Xd17 (by simp)
      replace hT := hT.keep Xd17 (by simp)
      have zd17 := Xd17.size
      replace hft := hT.ft
      refine d_take 0 82 rfl (by kernel_rfl) rfl hS17 (fun wS hS => runs_move rfl) ?_
      refine d_take 1 83 rfl (by kernel_rfl) rfl hS17 (fun wS hS => runs_move rfl) ?_
      refine d_take 2 84 rfl (by kernel_rfl) rfl hS17 (fun wS hS => runs_move rfl) ?_
      refine d_take 3 85 rfl (by kernel_rfl) rfl hS17 (fun wS hS => runs_len_slice Tryd.underlying25 rfl) ?_
      refine d_take 4 86 rfl (by kernel_rfl) rfl hS17 (fun wS hS => runs_loadAgg ty28 rfl ((hb14.keep hS (fun hm => by have h := hft _ hm; simp [Rg] at h <;> omega)).at) (by rw [natsC_length, hro])) ?_
      refine d_take 5 87 rfl (by kernel_rfl) rfl hS17 (fun wS hS => runs_loadAgg ty28 rfl ((hb15.keep hS (fun hm => by have h := hft _ hm; simp [Rg] at h <;> omega)).at) (by rw [natsC_length, hro2])) ?_
      refine d_take 6 88 rfl (by kernel_rfl) rfl hS17 (fun wS hS => runs_move rfl) ?_
      refine d_take 8 90 rfl (by kernel_rfl) rfl hS17 (fun wS hS => runs_move rfl) ?_
      refine d_take 9 91 rfl (by kernel_rfl) rfl hS17 (fun wS hS => runs_move rfl) ?_
      refine d_take 10 92 rfl (by kernel_rfl) rfl hS17 (fun wS hS => runs_move rfl) ?_
      refine d_take 11 93 rfl (by kernel_rfl) rfl hS17 (fun wS hS => runs_len_slice Tryd.underlying25 rfl) ?_
      refine d_take 12 94 rfl (by kernel_rfl) rfl hS17 (fun wS hS => runs_loadAgg ty28 rfl ((hb14.keep hS (fun hm => by have h := hft _ hm; simp [Rg] at h <;> omega)).at) (by rw [natsC_length, hro])) ?_
      refine d_take 13 95 rfl (by kernel_rfl) rfl hS17 (fun wS hS => runs_loadAgg ty28 rfl ((hb15.keep hS (fun hm => by have h := hft _ hm; simp [Rg] at h <;> omega)).at) (by rw [natsC_length, hro2])) ?_
      refine d_take 14 96 rfl (by kernel_rfl) rfl hS17 (fun wS hS => runs_move rfl) ?_
      refine d_only 7 rfl (by kernel_rfl) ?_
      refine s_callf (xs := [.tmp 82, .tmp 83, .tmp 85, .tmp 86, .tmp 87, .tmp 88]) rfl rfl Tryd.func26 rfl (by kernel_rfl) rfl (hT.grown [] (by simp) hG (by omega) (root_ok _ _ (Nat.le_refl _) htok) (root_ok _ _ (Nat.le_refl _) gok) hHp (fun p hp _ => by have := hltp _ (hinp p hp); omega) (by omega) (by omega) (by omega) (by omega)) ?_
      rintro _ w177 ⟨rfl, vt177, hC177⟩
      replace hG := hG.keep hC177.chg (fun k hk => by have h := hC177.ft k hk; simp [Rg] at h <;> omega)
      replace hX : Chg w _ [] := (hX.trans hC177.chg).mono (by intro k hk hlt; have h := hC177.ft k (by simpa using hk); simp [Rg] at h <;> omega)
      replace hHp := hHp.keep hC177.chg (fun p hp hm => by have h := hC177.ft _ hm; exact h.2.2 (by simp [hinp p hp]))
      replace hHq := hHq.keep hC177.chg (fun p hp hm => by have h := hC177.ft _ hm; exact h.2.2 (by simp [hinq p hp]))
      have zs17_7 := hC177.chg.size
      have hT := hC177.tl
      obtain ⟨ga, hga⟩ : ∃ x, x = Sp.isGrown m n (Sp.root (hs.take m)) (Sp.root gs) p := ⟨_, rfl⟩
      rw [← hga]
      have hn5 := Sp.isGrownN_len m n (Sp.root (hs.take m)) p
      replace hS17 : Chg wd17 _ (foot (some (bt, vt16, L))) := (hS17.trans hC177.chg).mono (by intro k hk _; simpa using hk)
      refine s_nil ⟨.inr hS17, ?_⟩
      refine d_only 15 rfl (by kernel_rfl) ?_
      refine s_callf (xs := [.tmp 90, .tmp 91, .tmp 93, .tmp 94, .tmp 95, .tmp 96]) rfl rfl Tryd.func26 rfl (by kernel_rfl) rfl (hT.grown [] (by simp) hG (by omega) (root_ok _ _ (Nat.le_refl _) htok) (root_ok _ _ (Nat.le_refl _) gok) hHq (fun p hp _ => by have := hltq _ (hinq p hp); omega) (by omega) (by omega) (by omega) (by simp <;> omega)) ?_
      rintro _ w178 ⟨rfl, vt178, hC178⟩
      replace hG := hG.keep hC178.chg (fun k hk => by have h := hC178.ft k hk; simp [Rg] at h <;> omega)
      replace hX : Chg w _ [] := (hX.trans hC178.chg).mono (by intro k hk hlt; have h := hC178.ft k (by simpa using hk); simp [Rg] at h <;> omega)
      replace hHp := hHp.keep hC178.chg (fun p hp hm => by have h := hC178.ft _ hm; exact h.2.2 (by simp [hinp p hp]))
      replace hHq := hHq.keep hC178.chg (fun p hp hm => by have h := hC178.ft _ hm; exact h.2.2 (by simp [hinq p hp]))
      have zs17_15 := hC178.chg.size
      have hT := hC178.tl
      obtain ⟨gb, hgb⟩ : ∃ x, x = Sp.isGrown m n (Sp.root (hs.take m)) (Sp.root gs) q := ⟨_, rfl⟩
      rw [← hgb]
      replace hS17 : Chg wd17 _ (foot (some (bt, vt16, L))) := (hS17.trans hC178.chg).mono (by intro k hk hlt; rcases List.mem_append.1 hk with hk | hk; exact hk; rcases hC177.new k hk with hk | hk; exact hk; omega)
      refine s_nil ⟨.inr hS17, ?_⟩
      refine d_take 16 16 rfl (by kernel_rfl) rfl hS17 (fun wS hS => runs_assign rfl) ?_
      refine d_take 17 17 rfl (by kernel_rfl) rfl hS17 (fun wS hS => runs_assign rfl) ?_
      refine d_done (by kernel_rfl) ?_
      refine hK35 _ _ ?_
      rcases (show ga = true ∨ (ga = false ∧ gb = true) ∨ (ga = false ∧ gb = false) by cases ga <;> cases gb <;> simp) with rfl | ⟨rfl, rfl⟩ | ⟨rfl, rfl⟩
      · refine c_seqreg (fun K38 hK38 => ?_)
        refine s_val rfl rfl (runs_move rfl) ?_
        refine s_val rfl rfl (runs_not rfl) ?_
        refine s_val rfl rfl (runs_move rfl) ?_
        refine s_skip rfl rfl ?_
        refine s_skip rfl rfl ?_
        refine s_val rfl rfl (runs_pickf rfl rfl) ?_
        refine s_val rfl rfl (runs_move rfl) ?_
        refine s_val rfl rfl (runs_move rfl) ?_
        refine s_callf (xs := [.tmp 105]) rfl rfl Tryd.func20 rfl (by kernel_rfl) rfl (hT.clash hG (by omega) (by
            intro x hx
            simp only [List.mem_append] at hx
            rcases hx with (hx | hx) | hx
            · have := hLs x hx; omega
            · have := isGrownN_short m n _ (root_ok _ _ (Nat.le_refl _) htok) p okp x hx; omega
            · have := isGrownN_short m n _ (root_ok _ _ (Nat.le_refl _) htok) q okq x hx; omega)) ?_
        rintro _ wcl ⟨bc, rfl, hbc, Xcl⟩
        replace hG := hG.keep Xcl (by simp)
        replace hX : Chg w _ [] := (hX.trans Xcl).mono (by intro k hk hlt; simp at hk ⊢ <;> first | omega | grind)
        replace hHp := hHp.keep0 Xcl
        replace hHq := hHq.keep0 Xcl
        replace hT := hT.keep Xcl (by simp)
        have zs18_8 := Xcl.size
        obtain rfl := hbc.2 (turned_law (by omega) (by omega) (by omega) hsok gok okp hne (by rw [hsl]; exact hga.symm) (fun x hx => by rw [hsl] at hx; rcases hx with hx | hx | hx <;> simp [hLL, hx]))
        refine s_val rfl rfl (runs_pickf rfl rfl) ?_
        refine s_val rfl rfl (runs_assign rfl) ?_
        refine s_nil ?_
        refine hK38 _ _ ?_
        refine c_ret ?_
        refine hret _ _ ?_
        exact ends1 (reads_tmp rfl) ⟨rfl, hX⟩
      · refine c_seqreg (fun K38 hK38 => ?_)
        refine s_val rfl rfl (runs_move rfl) ?_
        refine s_val rfl rfl (runs_not rfl) ?_
        refine s_val rfl rfl (runs_move rfl) ?_
        refine s_val rfl rfl (runs_move rfl) ?_
        refine s_val rfl rfl (runs_not rfl) ?_
        refine s_val rfl rfl (runs_pickt rfl rfl) ?_
        refine s_val rfl rfl (runs_move rfl) ?_
        refine s_val rfl rfl (runs_move rfl) ?_
        refine s_callf (xs := [.tmp 105]) rfl rfl Tryd.func20 rfl (by kernel_rfl) rfl (hT.clash hG (by omega) (by
            intro x hx
            simp only [List.mem_append] at hx
            rcases hx with (hx | hx) | hx
            · have := hLs x hx; omega
            · have := isGrownN_short m n _ (root_ok _ _ (Nat.le_refl _) htok) p okp x hx; omega
            · have := isGrownN_short m n _ (root_ok _ _ (Nat.le_refl _) htok) q okq x hx; omega)) ?_
        rintro _ wcl ⟨bc, rfl, hbc, Xcl⟩
        replace hG := hG.keep Xcl (by simp)
        replace hX : Chg w _ [] := (hX.trans Xcl).mono (by intro k hk hlt; simp at hk ⊢ <;> first | omega | grind)
        replace hHp := hHp.keep0 Xcl
        replace hHq := hHq.keep0 Xcl
        replace hT := hT.keep Xcl (by simp)
        have zs18_8 := Xcl.size
        obtain rfl := hbc.2 (turned_law (by omega) (by omega) (by omega) hsok gok okq hne (by rw [hsl]; exact hgb.symm) (fun x hx => by rw [hsl] at hx; rcases hx with hx | hx | hx <;> simp [hLL, hx]))
        refine s_val rfl rfl (runs_pickf rfl rfl) ?_
        refine s_val rfl rfl (runs_assign rfl) ?_
        refine s_nil ?_
        refine hK38 _ _ ?_
        refine c_ret ?_
        refine hret _ _ ?_
        exact ends1 (reads_tmp rfl) ⟨rfl, hX⟩
      · refine c_seqreg (fun K38 hK38 => ?_)
        refine s_val rfl rfl (runs_move rfl) ?_
        refine s_val rfl rfl (runs_not rfl) ?_
        refine s_val rfl rfl (runs_move rfl) ?_
        refine s_val rfl rfl (runs_move rfl) ?_
        refine s_val rfl rfl (runs_not rfl) ?_
        refine s_val rfl rfl (runs_pickt rfl rfl) ?_
        refine s_val rfl rfl (runs_move rfl) ?_
        refine s_skip rfl rfl ?_
        refine s_skip rfl rfl ?_
        refine s_val rfl rfl (runs_pickt rfl rfl) ?_
        refine s_val rfl rfl (runs_assign rfl) ?_
        refine s_nil ?_
        refine hK38 _ _ ?_
        refine c_ret ?_
        refine hret _ _ ?_
        exact ends1 (reads_tmp rfl) ⟨rfl, hX⟩
end Go.Proofs.YtecpedpfkdnfhaaDoor
