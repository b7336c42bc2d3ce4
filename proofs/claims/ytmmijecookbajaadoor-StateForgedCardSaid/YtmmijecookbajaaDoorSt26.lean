/- Part St26 of the proofs on this seat. Conditions: none beyond those in the theorems. By an AI agent. -/
import Derived.Test.YtmmijecookbajaaDoorSt25
namespace Go.Proofs.YtmmijecookbajaaDoor
open Go Go.RowKit

theorem pfC_set {th : Bool} {r : Ac} {s v : Value} (h : r.Num) : (pfC th r s).set 47 v = pfC th r v := by
  simp only [pfC, List.set_cons_succ]
  rw [List.set_append_right _ _ (by rw [Ac.len h]; exact Nat.le_refl _), Ac.len h]; rfl
theorem pfC_put {th b : Bool} {r r' : Ac} {s : Value} (h : r.Num) : ((pfC th r s).set 0 (.bool b)).take 1 ++ r'.C ++ ((pfC th r s).set 0 (.bool b)).drop (1 + 46) = pfC b r' s := by
  simp only [pfC, List.set_cons_zero, List.take_succ_cons, List.take_zero, show 1 + 46 = 46 + 1 by rfl, List.drop_succ_cons]
  rw [List.drop_append, List.drop_eq_nil_of_le (by rw [Ac.len h]; exact Nat.le_refl _), Ac.len h]; simp
theorem pf_there {th : Bool} {r : Ac} {s : Value} {w : World} {b : Nat} {t : TypeId} (hb : Blk w b (pfC th r s) t) : w.cell? ⟨b, 0 + 0, none⟩ = some (.bool th) := hb.at 0 _ rfl
set_option maxHeartbeats 8000000 in
theorem forgedS_calls (B : Nat) (ls : List Ac) (a : Option Addr) (n c : Nat) (id : Nm) (zs : List Int) (w : World) (hG0 : GH B w) (hBw : B ≤ w.heap.size) (hR : AcR w a n c ls) (hn : n * 144 ≤ 140737488355328) (hid : NOk id) (hzs : zs.length = 2) (hzw : ∀ z ∈ zs, -9223372036854775808 ≤ z ∧ z ≤ 9223372036854775807) :
    CallsR Tryd.prog 7 #[.slice a n c, nv id, .agg (intsC .i64 zs).toArray] w fun v w' => v = .bool true ∧ Chg w w' [] := by
  obtain ⟨z0, z1, rfl⟩ : ∃ z0 z1, zs = [z0, z1] := by
    match zs, hzs with
    | [z0, z1], _ => exact ⟨_, _, rfl⟩
  have hX : Chg w w [] := Chg.refl _ _
  have hG := hG0
  refine f_enter (l := [.slice a n c, nv id, .agg (intsC .i64 [z0, z1]).toArray]) Tryd.func7 rfl rfl rfl rfl ?_
  intro Qf hnrm hret
  refine c_seqreg (fun K1 hK1 => ?_)
  refine s_box rfl rfl rfl ?_
  intro b4 w00 e0_0 z0_0 hb4 X0_0
  have s0_0_hX := hX.size
  replace hG := hG.keep X0_0 (by simp)
  replace hX : Chg w _ [] := (hX.trans X0_0).mono (by intro k hk hlt; simp at hk ⊢ <;> first | omega | grind)
  replace hb4 : Blk w00 b4 (numC id) 24 := hb4
  refine s_box rfl rfl rfl ?_
  intro b5 w01 e0_1 z0_1 hb5 X0_1
  have s0_1_hX := hX.size
  have s0_1_hb4 := hb4.lt
  replace hG := hG.keep X0_1 (by simp)
  replace hX : Chg w _ [] := (hX.trans X0_1).mono (by intro k hk hlt; simp at hk ⊢ <;> first | omega | grind)
  replace hb4 := hb4.keep X0_1 (by simp)
  replace hb5 : Blk w01 b5 ([.int .i64 z0, .int .i64 z1]) 49 := hb5
  refine s_val rfl rfl (runs_assign rfl) ?_
  refine s_nil ?_
  have hl4 := hb4.lt
  have hl5 := hb5.lt
  refine hK1 _ _ ?_
  refine c_seq (fun K4 hK4 => ?_)
  refine c_seqreg (fun K5 hK5 => ?_)
  refine s_callf (xs := []) rfl rfl Tryd.func10 rfl (by kernel_rfl) rfl (fit_calls B _ hG (by omega)) ?_
  rintro _ w1 ⟨rfl, X1_0⟩
  replace hG := hG.keep X1_0 (by simp)
  replace hX : Chg w _ [] := (hX.trans X1_0).mono (by intro k hk hlt; simp at hk ⊢ <;> first | omega | grind)
  replace hb4 := hb4.keep X1_0 (by simp)
  replace hb5 := hb5.keep X1_0 (by simp)
  have zs1_0 := X1_0.size
  refine s_val rfl rfl (runs_not rfl) ?_
  refine s_nil ?_
  refine hK5 _ _ ?_
  refine c_false rfl ?_
  refine c_skip ?_
  refine hK4 _ _ ?_
  refine c_seqreg (fun K7 hK7 => ?_)
  refine s_val rfl rfl (runs_move rfl) ?_
  refine s_callf (xs := [.tmp 17]) rfl rfl Tryd.func14 rfl (by kernel_rfl) rfl (few_calls B ls a n c _ hG (by omega) (hR.keep0 hX) hn) ?_
  rintro _ w31 ⟨v1, rfl, hown, X3_1⟩
  replace hG := hG.keep X3_1 (by simp)
  replace hX : Chg w _ [] := (hX.trans X3_1).mono (by intro k hk hlt; simp at hk ⊢ <;> first | omega | grind)
  replace hb4 := hb4.keep X3_1 (by simp)
  replace hb5 := hb5.keep X3_1 (by simp)
  have zs3_1 := X3_1.size
  have hlw := few_wf hR.ok
  have hlok := few_ok hR.ok
  have hll := few_len ls
  rw [hR.len] at hll
  obtain ⟨l, hl⟩ : ∃ l, l = Sp.few ls := ⟨_, rfl⟩
  rw [← hl] at hown hlw hlok hll
  obtain ⟨n1, hn1⟩ : ∃ k, k = l.length := ⟨_, rfl⟩
  rw [← hn1] at hown hll
  obtain ⟨a1, c1, rfl, hRl, hob1⟩ := own_acs hown hlw.num hn1.symm
  have hal : ∀ p, a1 = some p → p.block < w31.heap.size := fun p hp => (hown.lt p.block (by rw [hob1, hp]; rfl)).2
  have hzX3 := hX.size
  have hal1 : ∀ p, a1 = some p → w1.heap.size ≤ p.block := fun p hp => (hown.lt p.block (by rw [hob1, hp]; rfl)).1
  refine s_val rfl rfl (runs_move rfl) ?_
  refine s_val rfl rfl (runs_extract rfl rfl) ?_
  refine s_val rfl rfl (runs_extract rfl rfl) ?_
  refine s_val rfl rfl (runs_assign rfl) ?_
  refine s_val rfl rfl (runs_assign rfl) ?_
  refine s_nil ?_
  refine hK7 _ _ ?_
  refine c_seq (fun K9 hK9 => ?_)
  rcases Decidable.em ((n : Int) ≤ 20) with h20 | h20
  · refine c_seqreg (fun K10 hK10 => ?_)
    refine s_val rfl rfl (runs_dt (runs_move rfl) h20) ?_
    refine s_val rfl rfl (runs_not rfl) ?_
    refine s_val rfl rfl (runs_move rfl) ?_
    refine s_val rfl rfl (runs_move rfl) ?_
    refine s_val rfl rfl (runs_len_slice Tryd.underlying38 rfl) ?_
    refine s_val rfl rfl (runs_eqd rfl rfl) ?_
    refine s_val rfl rfl (runs_pickf rfl rfl) ?_
    refine s_nil ?_
    refine hK10 _ _ ?_
    refine c_dec rfl (fun h0 => ?_) (fun h0 => ?_)
    · refine c_seqreg (fun K11 hK11 => ?_)
      refine s_val rfl rfl (runs_assign rfl) ?_
      refine s_nil ?_
      refine hK11 _ _ ?_
      refine c_ret ?_
      refine hret _ _ ?_
      exact ends1 (reads_tmp rfl) ⟨rfl, hX⟩
    · refine c_skip ?_
      refine hK9 _ _ ?_
      refine c_seq (fun K12 hK12 => ?_)
      have hJ12 : ∀ (id2 : Nm) (W : World), (NOk id2 ∧ Chg w31 W [b4] ∧ Blk W b4 (numC id2) 24) → ∀ ρ : Env, SubL ([(0, .slice a1 n1 c1), (4, (.pointer (some ⟨b4, 0, none⟩))), (5, (.pointer (some ⟨b5, 0, none⟩)))]) ρ → K12 ρ W := by
        intro id2 W hI ρ hρ
        refine hK12 _ _ (c_sub _ hρ ?_)
        clear hρ
        obtain ⟨hid2, hC6, hb4⟩ := hI
        replace hG := hG.keep hC6 (by simp; omega)
        replace hX : Chg w W [] := (hX.trans hC6).mono (by intro k hk hlt; simp at hk; omega)
        replace hb5 := hb5.keep hC6 (by simp; omega)
        replace hRl := hRl.keep hC6 (fun p hp => by have := hal1 p hp; simp; omega)
        have hz6 := hC6.size
        have hzX6 := hX.size
        refine c_seqreg (fun K13 hK13 => ?_)
        refine s_val rfl rfl (runs_build_zeroS (xs := #[(0, 1)]) Tryd.underlying53 ty53 rfl (by kernel_rfl)) ?_
        refine s_box rfl rfl rfl ?_
        intro bt w8t e8_1 z8_1 hbt X8_1
        have s8_1_hX := hX.size
        have s8_1_hb4 := hb4.lt
        have s8_1_hb5 := hb5.lt
        replace hG := hG.keep X8_1 (by simp)
        replace hX : Chg w _ [] := (hX.trans X8_1).mono (by intro k hk hlt; simp at hk ⊢ <;> first | omega | grind)
        replace hb4 := hb4.keep X8_1 (by simp)
        replace hb5 := hb5.keep X8_1 (by simp)
        replace hRl := hRl.keep0 X8_1
        replace hbt : Blk w8t bt ([.slice none 0 0]) 53 := hbt
        have hlbt := hbt.lt
        have hT := TL.new (B := B) (lo := bt) hbt (by omega) (Nat.le_refl _)
        refine s_val rfl rfl (runs_assign rfl) ?_
        refine s_nil ?_
        refine hK13 _ _ ?_
        refine c_seqreg (fun K15 hK15 => ?_)
        refine s_val rfl rfl (runs_move rfl) ?_
        refine s_val rfl rfl (runs_move rfl) ?_
        refine s_callf (xs := [.tmp 44, .const (.int .i64 0), .tmp 45]) rfl rfl Tryd.func15 rfl (by kernel_rfl) rfl (hT.aroot [] (by simp) hG (by omega) hlw hRl (fun p hp => .inl (by have := hal p hp; omega)) (by omega) (by simp)) ?_
        rintro _ w92 ⟨rfl, vt92, hC92⟩
        replace hG := hG.keep hC92.chg (fun k hk => by have h := hC92.ft k hk; simp [Rg] at h <;> omega)
        replace hX : Chg w _ [] := (hX.trans hC92.chg).mono (by intro k hk hlt; have h := hC92.ft k (by simpa using hk); simp [Rg] at h <;> omega)
        replace hb4 := hb4.keep hC92.chg (fun hm => by have h := hC92.ft _ hm; simp [Rg] at h <;> omega)
        replace hb5 := hb5.keep hC92.chg (fun hm => by have h := hC92.ft _ hm; simp [Rg] at h <;> omega)
        replace hRl := hRl.keep hC92.chg (fun p hp hm => by have h := hC92.ft _ hm; have := hal p hp; simp [Rg] at h <;> omega)
        have zs9_2 := hC92.chg.size
        have hT := hC92.tl
        refine s_alloc ty26 rfl rfl ?_
        intro b9 w93 e9_3 z9_3 hb9 X9_3
        have s9_3_hX := hX.size
        have s9_3_hb4 := hb4.lt
        have s9_3_hb5 := hb5.lt
        replace hG := hG.keep X9_3 (by simp)
        replace hX : Chg w _ [] := (hX.trans X9_3).mono (by intro k hk hlt; simp at hk ⊢ <;> first | omega | grind)
        replace hb4 := hb4.keep X9_3 (by simp)
        replace hb5 := hb5.keep X9_3 (by simp)
        replace hRl := hRl.keep0 X9_3
        replace hT := hT.keep X9_3 (by simp)
        refine s_storeAll ty26 rfl rfl rfl hb9 (by rw [natsC_length, (aroot_ok _ _).1]) rfl (natsC_one _ _) ?_
        intro w94 z9_4 h9_4 X9_4
        replace hG := hG.keep X9_4 (by simp; omega)
        replace hX : Chg w _ [] := (hX.trans X9_4).mono (by intro k hk hlt; simp at hk ⊢ <;> first | omega | grind)
        replace hb4 := hb4.keep X9_4 (by simp; omega)
        replace hb5 := hb5.keep X9_4 (by simp; omega)
        replace hRl := hRl.keep X9_4 (fun p hp => by have := hal p hp; simp; omega)
        replace hT := hT.keep X9_4 (by simp [Rg] <;> omega)
        replace hb9 := h9_4
        refine s_nil ?_
        have hl9 := hb9.lt
        have hl4b := hb4.lt
        have hzX9 := hX.size
        have hz92 : w92.heap.size ≤ b9 := by omega
        refine hK15 _ _ ?_
        refine c_seqreg (fun K19 hK19 => ?_)
        refine s_val rfl rfl (runs_loadAgg ty24 rfl hb4.at (numC_len _)) ?_
        refine s_val rfl rfl (runs_move rfl) ?_
        refine s_callf (xs := [.const (.pointer none), .tmp 47, .tmp 48]) rfl rfl Tryd.func16 rfl (by kernel_rfl) rfl (prove_calls B id2 l _ _ _ _ hG (by omega) hid2 hlw hRl (by omega)) ?_
        rintro _ w102 ⟨sp, rfl, howp, X10_2⟩
        replace hG := hG.keep X10_2 (by simp)
        replace hX : Chg w _ [] := (hX.trans X10_2).mono (by intro k hk hlt; simp at hk ⊢ <;> first | omega | grind)
        replace hb4 := hb4.keep X10_2 (by simp)
        replace hb5 := hb5.keep X10_2 (by simp)
        replace hT := hT.keep X10_2 (by simp)
        replace hb9 := hb9.keep X10_2 (by simp)
        have zs10_2 := X10_2.size
        have hpo := apath_ok id2 129 0 l (by omega) hlw
        have hpl := apath_len id2 129 0 l (by omega) hlw
        have htn := topA_num id2 hlw
        have htk : 0 ≤ (Sp.topA (Sp.aend id2 0 l)).rows ∧ (Sp.topA (Sp.aend id2 0 l)).rows ≤ 281474976710655 := by
          rcases aend_cases id2 hlw with h | ⟨q, h, hq⟩
          · rw [h]; simp [Sp.topA, Sp.zeroA]
          · rw [h]; exact (hlok q hq).rows
        obtain ⟨th, hth⟩ : ∃ b, b = decide (Sp.aend id2 0 l ≠ []) := ⟨_, rfl⟩
        obtain ⟨tA, htA⟩ : ∃ b, b = Sp.topA (Sp.aend id2 0 l) := ⟨_, rfl⟩
        obtain ⟨pth, hpth⟩ : ∃ b, b = Sp.apath id2 0 l := ⟨_, rfl⟩
        rw [← htA] at htn htk ⊢
        rw [← hth]
        rw [← hpth] at howp hpo hpl
        obtain ⟨ap, cp, rfl, hHp, hbp⟩ := own_hs howp hpo rfl
        have hapl : ∀ p, ap = some p → p.block < w102.heap.size := fun p hp => (howp.lt p.block (by rw [hbp, hp]; rfl)).2
        refine s_alloc ty33 rfl rfl ?_
        intro b10 w103 e10_3 z10_3 hb10 X10_3
        have s10_3_hX := hX.size
        have s10_3_hb4 := hb4.lt
        have s10_3_hb5 := hb5.lt
        have s10_3_hb9 := hb9.lt
        replace hG := hG.keep X10_3 (by simp)
        replace hX : Chg w _ [] := (hX.trans X10_3).mono (by intro k hk hlt; simp at hk ⊢ <;> first | omega | grind)
        replace hb4 := hb4.keep X10_3 (by simp)
        replace hb5 := hb5.keep X10_3 (by simp)
        replace hT := hT.keep X10_3 (by simp)
        replace hb9 := hb9.keep X10_3 (by simp)
        replace hHp := hHp.keep0 X10_3
        refine s_storeAll ty33 rfl rfl rfl hb10 (pfC_len htn) rfl (pfC_one rfl) ?_
        intro w104 z10_4 h10_4 X10_4
        replace hG := hG.keep X10_4 (by simp; omega)
        replace hX : Chg w _ [] := (hX.trans X10_4).mono (by intro k hk hlt; simp at hk ⊢ <;> first | omega | grind)
        replace hb4 := hb4.keep X10_4 (by simp; omega)
        replace hb5 := hb5.keep X10_4 (by simp; omega)
        replace hT := hT.keep X10_4 (by simp [Rg] <;> omega)
        replace hb9 := hb9.keep X10_4 (by simp; omega)
        replace hHp := hHp.keep X10_4 (fun p hp => by have := hapl p hp; simp; omega)
        replace hb10 := h10_4
        refine s_nil ?_
        have hl10 := hb10.lt
        refine hK19 _ _ ?_
        refine c_seqreg (fun K23 hK23 => ?_)
        refine s_val rfl rfl (runs_loadAgg ty33 rfl hb10.at (pfC_len htn)) ?_
        refine s_alloc ty33 rfl rfl ?_
        intro b11 w111 e11_1 z11_1 hb11 X11_1
        have s11_1_hX := hX.size
        have s11_1_hb4 := hb4.lt
        have s11_1_hb5 := hb5.lt
        have s11_1_hb9 := hb9.lt
        have s11_1_hb10 := hb10.lt
        replace hG := hG.keep X11_1 (by simp)
        replace hX : Chg w _ [] := (hX.trans X11_1).mono (by intro k hk hlt; simp at hk ⊢ <;> first | omega | grind)
        replace hb4 := hb4.keep X11_1 (by simp)
        replace hb5 := hb5.keep X11_1 (by simp)
        replace hT := hT.keep X11_1 (by simp)
        replace hb9 := hb9.keep X11_1 (by simp)
        replace hHp := hHp.keep0 X11_1
        replace hb10 := hb10.keep X11_1 (by simp)
        refine s_storeAll ty33 rfl rfl rfl hb11 (pfC_len htn) rfl (pfC_one rfl) ?_
        intro w112 z11_2 h11_2 X11_2
        replace hG := hG.keep X11_2 (by simp; omega)
        replace hX : Chg w _ [] := (hX.trans X11_2).mono (by intro k hk hlt; simp at hk ⊢ <;> first | omega | grind)
        replace hb4 := hb4.keep X11_2 (by simp; omega)
        replace hb5 := hb5.keep X11_2 (by simp; omega)
        replace hT := hT.keep X11_2 (by simp [Rg] <;> omega)
        replace hb9 := hb9.keep X11_2 (by simp; omega)
        replace hHp := hHp.keep X11_2 (fun p hp => by have := hapl p hp; simp; omega)
        replace hb10 := hb10.keep X11_2 (by simp; omega)
        replace hb11 := h11_2
        refine s_nil ?_
        have hl11 := hb11.lt
        have hz92b : w92.heap.size ≤ w112.heap.size := by omega
        refine hK23 _ _ ?_
        refine c_seqreg (fun K26 hK26 => ?_)
        refine s_val rfl rfl (runs_fieldAddr Tryd.underlying33 rfl ty31 (by decide) rfl) ?_
        refine s_val rfl rfl (runs_load1 ty31 rfl (hb10.cell (o := 47) (pfC_path htn))) ?_
        refine s_append Tryd.underlying31 ty26 rfl (by decide) rfl rfl rfl (World.ownsRow_nil _ w112.heap.size _ _) rfl hHp.rd (natsC_one _ _) (by simp only [maxLen]; omega) (by omega) (Nat.le_refl _) ?_
        intro vq w122 H12_2 X12_2 F12_2
        replace X12_2 : Chg _ _ [] := X12_2
        replace hG := hG.keep X12_2 (by simp)
        replace hX : Chg w _ [] := (hX.trans X12_2).mono (by intro k hk hlt; simp at hk ⊢ <;> first | omega | grind)
        replace hb4 := hb4.keep X12_2 (by simp)
        replace hb5 := hb5.keep X12_2 (by simp)
        replace hT := hT.keep X12_2 (by simp)
        replace hb9 := hb9.keep X12_2 (by simp)
        replace hb10 := hb10.keep X12_2 (by simp)
        replace hb11 := hb11.keep X12_2 (by simp)
        have hoq := H12_2
        replace hoq : w122.ownsRow w112.heap.size 26 32 vq pth.length (natsC .u8 pth.flatten) := by simpa using hoq
        refine s_val rfl rfl (runs_fieldAddr Tryd.underlying33 rfl ty31 (by decide) rfl) ?_
        refine s_store1 ty31 rfl rfl rfl hb11 (own_one hoq) (by show 47 < (pfC th tA (.slice ap pth.length cp)).length; rw [pfC_len htn]; decide) ?_
        intro w124 z12_4 h12_4 X12_4
        replace hG := hG.keep X12_4 (by simp; omega)
        replace hX : Chg w _ [] := (hX.trans X12_4).mono (by intro k hk hlt; simp at hk ⊢ <;> first | omega | grind)
        replace hb4 := hb4.keep X12_4 (by simp; omega)
        replace hb5 := hb5.keep X12_4 (by simp; omega)
        replace hT := hT.keep X12_4 (by simp [Rg] <;> omega)
        replace hb9 := hb9.keep X12_4 (by simp; omega)
        replace hb10 := hb10.keep X12_4 (by simp; omega)
        replace hoq := own_keep hoq X12_4 (fun k hk hm => by have := (hoq.lt k hk).1; simp at hm; omega)
        replace hb11 := h12_4
        refine s_nil ?_
        replace hb11 : Blk w124 b11 (pfC th tA vq) 33 := by
          rw [← pfC_set (th := th) (s := .slice ap pth.length cp) (v := vq) htn]; exact hb11
        obtain ⟨lq, hlq⟩ : ∃ lq, lq = vq.ownBlock.toList := ⟨_, rfl⟩
        have hlqr : ∀ z ∈ lq, w112.heap.size ≤ z ∧ z < w124.heap.size := fun z hz => hoq.lt z (by rw [hlq] at hz; simpa using hz)
        obtain ⟨aq, cq, rfl, hHq, hbq⟩ := own_hs hoq hpo rfl
        have hzX12 := hX.size
        obtain ⟨s, hs⟩ : ∃ s, s = land64 (z0.fdiv (2 ^ (min (Int.toNat 1) IntKind.i64.bits))) 3 := ⟨_, rfl⟩
        have hs3 : s ≤ 3 := by rw [hs]; exact land64_le (by decide)
        have hzt := hT.top
        have hal11 : b11 < w112.heap.size := by have := X12_2.size; omega
        refine hK26 _ _ ?_
        refine c_seq (fun K29 hK29 => ?_)
        have hJ29 : ∀ (th2 : Bool) (r2 : Ac) (a2 : Option Addr) (c2 : Nat) (P2 : List (List Nat)) (W : World), (r2.Num ∧ (∀ x ∈ P2, HOk x) ∧ P2.length ≤ 129 ∧ HsR W a2 P2.length c2 P2 ∧ (∀ p, a2 = some p → w112.heap.size ≤ p.block ∧ p.block < W.heap.size) ∧ Blk W b11 (pfC th2 r2 (.slice a2 P2.length c2)) 33 ∧ Chg w124 W (b11 :: lq) ∧ ∀ L, (∀ z, z ∈ Sp.anotes 0 l ∨ z ∈ Sp.aclimbRN id2 th2 r2 P2 → z ∈ L) → (Sp.aclimbR id2 th2 r2 P2).2 = true → (Sp.aclimbR id2 th2 r2 P2).1 = Sp.aroot 0 l → Sp.Clash L) → ∀ ρ : Env, SubL ([(8, (.pointer (some ⟨bt, 0, none⟩))), (4, (.pointer (some ⟨b4, 0, none⟩))), (11, (.pointer (some ⟨b11, 0, none⟩))), (9, (.pointer (some ⟨b9, 0, none⟩)))]) ρ → K29 ρ W := by
          intro th2 r2 a2 c2 P2 W hI ρ hρ
          refine hK29 _ _ (c_sub _ hρ ?_)
          clear hρ
          obtain ⟨hn2, hP2o, hP2l, hH2, ha2, hb11, hC13, hlaw⟩ := hI
          replace hG := hG.keep hC13 (fun k hk => by rcases List.mem_cons.1 hk with rfl | hk; omega; have := hlqr k hk; omega)
          replace hX : Chg w W [] := (hX.trans hC13).mono (by intro k hk hlt; simp only [List.nil_append] at hk; rcases List.mem_cons.1 hk with rfl | hk; omega; have := hlqr k hk; omega)
          replace hT := hT.keep hC13 (fun k hk => by rcases List.mem_cons.1 hk with rfl | hk; simp [Rg]; omega; have := hlqr k hk; simp [Rg]; omega)
          replace hb4 := hb4.keep hC13 (fun hm => by rcases List.mem_cons.1 hm with h | h; omega; have := hlqr _ h; omega)
          replace hb9 := hb9.keep hC13 (fun hm => by rcases List.mem_cons.1 hm with h | h; omega; have := hlqr _ h; omega)
          have hz13 := hC13.size
          have hzX13 := hX.size
          obtain ⟨l2, hl2⟩ : ∃ l2, l2 = (a2.map (·.block)).toList := ⟨_, rfl⟩
          have hl2r : ∀ z ∈ l2, w112.heap.size ≤ z ∧ z < W.heap.size := fun z hz => by
            rw [hl2] at hz
            cases a2 with
            | none => simp at hz
            | some p => simp at hz; rw [hz]; exact ha2 p rfl
          have hl2p : ∀ p, a2 = some p → p.block ∈ l2 := fun p hp => by rw [hl2, hp]; simp
          refine c_seqreg (fun K30 hK30 => ?_)
          refine s_val rfl rfl (runs_move rfl) ?_
          refine s_val rfl rfl (runs_loadAgg ty24 rfl hb4.at (numC_len _)) ?_
          refine s_val rfl rfl (runs_loadAgg ty33 rfl hb11.at (pfC_len hn2)) ?_
          refine s_callf (xs := [.tmp 106, .tmp 107, .tmp 108]) rfl rfl Tryd.func12 rfl (by kernel_rfl) rfl (hT.climbS (b9 :: l2) (fun z hz => by rcases List.mem_cons.1 hz with rfl | hz; have := hb9.lt; omega; have := hl2r z hz; omega) hG (by omega) hid2 hn2 hH2 (fun p hp => .inr (by simp [hl2p p hp])) (fun p hp => (ha2 p hp).2) (by omega) (by have := anotes_few hlw (by omega); simp; omega)) ?_
          rintro _ w233 ⟨rfl, vt233, hC233⟩
          replace hG := hG.keep hC233.chg (fun k hk => by have h := hC233.ft k hk; simp [Rg] at h <;> omega)
          replace hX : Chg w _ [] := (hX.trans hC233.chg).mono (by intro k hk hlt; have h := hC233.ft k (by simpa using hk); simp [Rg] at h <;> omega)
          replace hb9 := hb9.keep hC233.chg (fun hm => by have h := (hC233.ft _ hm).2.2; simp at h)
          have zs23_3 := hC233.chg.size
          have hT := hC233.tl
          obtain ⟨fv, hfv⟩ : ∃ b, b = (Sp.aclimbR id2 th2 r2 P2).2 := ⟨_, rfl⟩
          obtain ⟨hh, hhh⟩ : ∃ h, h = (Sp.aclimbR id2 th2 r2 P2).1 := ⟨_, rfl⟩
          have okh : HOk hh := by rw [hhh]; exact aclimbR_ok
          rw [← hfv, ← hhh]
          refine s_val rfl rfl (runs_move rfl) ?_
          refine s_val rfl rfl (runs_extract rfl rfl) ?_
          refine s_val rfl rfl (runs_extract rfl rfl) ?_
          refine s_alloc ty26 rfl rfl ?_
          intro b12 w237 e23_7 z23_7 hb12 X23_7
          have s23_7_hX := hX.size
          have s23_7_hb9 := hb9.lt
          replace hG := hG.keep X23_7 (by simp)
          replace hX : Chg w _ [] := (hX.trans X23_7).mono (by intro k hk hlt; simp at hk ⊢ <;> first | omega | grind)
          replace hb9 := hb9.keep X23_7 (by simp)
          replace hT := hT.keep X23_7 (by simp)
          refine s_storeAll ty26 rfl rfl rfl hb12 (by rw [natsC_length, okh.1]) rfl (natsC_one _ _) ?_
          intro w238 z23_8 h23_8 X23_8
          replace hG := hG.keep X23_8 (by simp; omega)
          replace hX : Chg w _ [] := (hX.trans X23_8).mono (by intro k hk hlt; simp at hk ⊢ <;> first | omega | grind)
          replace hb9 := hb9.keep X23_8 (by simp; omega)
          replace hT := hT.keep X23_8 (by simp [Rg] <;> omega)
          replace hb12 := h23_8
          refine s_val rfl rfl (runs_assign rfl) ?_
          refine s_nil ?_
          have hl12 := hb12.lt
          have hzX23 := hX.size
          refine hK30 _ _ ?_
          cases fv with
          | false => ?_
          | true => ?_
          rotate_left
          rcases Decidable.em (hh = Sp.aroot 0 l) with heq | heq
          rotate_left
          rotate_left
          · refine c_seqreg (fun K34 hK34 => ?_)
            refine s_val rfl rfl (runs_move rfl) ?_
            refine s_val rfl rfl (runs_not rfl) ?_
            refine s_val rfl rfl (runs_move rfl) ?_
            refine s_skip rfl rfl ?_
            refine s_skip rfl rfl ?_
            refine s_skip rfl rfl ?_
            refine s_val rfl rfl (runs_pickt rfl rfl) ?_
            refine s_val rfl rfl (runs_move rfl) ?_
            refine s_skip rfl rfl ?_
            refine s_skip rfl rfl ?_
            refine s_val rfl rfl (runs_pickt rfl rfl) ?_
            refine s_val rfl rfl (runs_assign rfl) ?_
            refine s_nil ?_
            refine hK34 _ _ ?_
            refine c_ret ?_
            refine hret _ _ ?_
            exact ends1 (reads_tmp rfl) ⟨rfl, hX⟩
          · refine c_seqreg (fun K34 hK34 => ?_)
            refine s_val rfl rfl (runs_move rfl) ?_
            refine s_val rfl rfl (runs_not rfl) ?_
            refine s_val rfl rfl (runs_move rfl) ?_
            refine s_val rfl rfl (runs_loadAgg ty26 rfl hb12.at (by rw [natsC_length, okh.1])) ?_
            refine s_val rfl rfl (runs_loadAgg ty26 rfl hb9.at (by rw [natsC_length, (aroot_ok _ _).1])) ?_
            refine s_val rfl rfl (runs_df (runs_hv_ne rfl rfl okh (aroot_ok _ _)) (fun h => h heq)) ?_
            refine s_val rfl rfl (runs_pickf rfl rfl) ?_
            refine s_val rfl rfl (runs_move rfl) ?_
            refine s_val rfl rfl (runs_move rfl) ?_
            refine s_callf (xs := [.tmp 120]) rfl rfl Tryd.func20 rfl (by kernel_rfl) rfl (hT.clash hG (by omega) (by
                intro z hz
                simp only [List.mem_append, List.not_mem_nil, false_or] at hz
                have h1 := anotes_short 129 0 l (by omega) hlw z
                have h2 := aclimbRN_short (id := id2) (th := th2) hn2 hP2o z
                grind)) ?_
            rintro _ wcl ⟨bc, rfl, hbc, Xcl⟩
            replace hG := hG.keep Xcl (by simp)
            replace hX : Chg w _ [] := (hX.trans Xcl).mono (by intro k hk hlt; simp at hk ⊢ <;> first | omega | grind)
            replace hb9 := hb9.keep Xcl (by simp)
            replace hT := hT.keep Xcl (by simp)
            replace hb12 := hb12.keep Xcl (by simp)
            have zs24_9 := Xcl.size
            obtain rfl := hbc.2 (hlaw _ (fun z hz => by simp only [List.mem_append]; rcases hz with hz | hz <;> simp [hz]) hfv.symm (by rw [← hhh]; exact heq))
            refine s_val rfl rfl (runs_pickf rfl rfl) ?_
            refine s_val rfl rfl (runs_assign rfl) ?_
            refine s_nil ?_
            refine hK34 _ _ ?_
            refine c_ret ?_
            refine hret _ _ ?_
            exact ends1 (reads_tmp rfl) ⟨rfl, hX⟩
          · refine c_seqreg (fun K34 hK34 => ?_)
            refine s_val rfl rfl (runs_move rfl) ?_
            refine s_val rfl rfl (runs_not rfl) ?_
            refine s_val rfl rfl (runs_move rfl) ?_
            refine s_val rfl rfl (runs_loadAgg ty26 rfl hb12.at (by rw [natsC_length, okh.1])) ?_
            refine s_val rfl rfl (runs_loadAgg ty26 rfl hb9.at (by rw [natsC_length, (aroot_ok _ _).1])) ?_
            refine s_val rfl rfl (runs_dt (runs_hv_ne rfl rfl okh (aroot_ok _ _)) heq) ?_
            refine s_val rfl rfl (runs_pickf rfl rfl) ?_
            refine s_val rfl rfl (runs_move rfl) ?_
            refine s_skip rfl rfl ?_
            refine s_skip rfl rfl ?_
            refine s_val rfl rfl (runs_pickt rfl rfl) ?_
            refine s_val rfl rfl (runs_assign rfl) ?_
            refine s_nil ?_
            refine hK34 _ _ ?_
            refine c_ret ?_
            refine hret _ _ ?_
            exact ends1 (reads_tmp rfl) ⟨rfl, hX⟩
        refine c_seqreg (fun K36 hK36 => ?_)
        refine s_val rfl rfl (runs_index_array (0) Tryd.underlying49 ty3 rfl rfl (by omega) (by omega)) ?_
        refine s_val rfl rfl (runs_load1 ty3 rfl (hb5.c1 (j := 0) rfl)) ?_
        refine s_val rfl rfl (runs_shr rfl rfl (by decide)) ?_
        refine s_val rfl rfl (runs_as (v' := .int .i64 (s : Int)) (runs_and64 3 rfl (by decide)) (by rw [hs])) ?_
        refine s_nil ?_
        refine hK36 _ _ ?_
        refine c_block ?_
        rcases (show s = 0 ∨ s = 1 ∨ s = 2 ∨ s = 3 by omega) with hs0 | hs0 | hs0 | hs0
        · refine c_seqreg (fun K37 hK37 => ?_)
          refine s_val rfl rfl (runs_dt (runs_eqd rfl rfl) (by omega)) ?_
          refine s_val rfl rfl (runs_assign rfl) ?_
          refine s_nil ?_
          refine hK37 _ _ ?_
          refine c_true rfl ?_
          refine c_reg ?_
          refine s_val rfl rfl (runs_fieldAddr Tryd.underlying33 rfl ty4 (by decide) rfl) ?_
          refine s_val rfl rfl (runs_load1 ty4 rfl (pf_there hb10)) ?_
          refine s_val rfl rfl (runs_not rfl) ?_
          refine s_val rfl rfl (runs_buildv (v := av Sp.zeroA) [] rfl (by kernel_rfl)) ?_
          refine s_val rfl rfl (runs_fieldAddr Tryd.underlying33 rfl ty4 (by decide) rfl) ?_
          refine s_store1 ty4 rfl rfl rfl hb11 (by rfl) (by simp [pfC]) ?_
          intro w165 z16_5 h16_5 X16_5
          replace hG := hG.keep X16_5 (by simp; omega)
          replace hX : Chg w _ [] := (hX.trans X16_5).mono (by intro k hk hlt; simp at hk ⊢ <;> first | omega | grind)
          replace hb4 := hb4.keep X16_5 (by simp; omega)
          replace hb5 := hb5.keep X16_5 (by simp; omega)
          replace hT := hT.keep X16_5 (by simp [Rg] <;> omega)
          replace hb9 := hb9.keep X16_5 (by simp; omega)
          replace hb10 := hb10.keep X16_5 (by simp; omega)
          replace hoq := own_keep hoq X16_5 (fun k hk hm => by have := (hoq.lt k hk).1; simp at hm; omega)
          replace hb11 := h16_5
          refine s_val rfl rfl (runs_fieldAddr Tryd.underlying33 rfl ty28 (by decide) rfl) ?_
          refine s_store ty28 rfl rfl rfl hb11 (Ac.len zeroA_num) (by show 1 + 46 ≤ ((pfC th tA _).set 0 _).length; rw [List.length_set, pfC_len htn]; decide) (Ac.one _) ?_
          intro w167 z16_7 h16_7 X16_7
          replace hG := hG.keep X16_7 (by simp; omega)
          replace hX : Chg w _ [] := (hX.trans X16_7).mono (by intro k hk hlt; simp at hk ⊢ <;> first | omega | grind)
          replace hb4 := hb4.keep X16_7 (by simp; omega)
          replace hb5 := hb5.keep X16_7 (by simp; omega)
          replace hT := hT.keep X16_7 (by simp [Rg] <;> omega)
          replace hb9 := hb9.keep X16_7 (by simp; omega)
          replace hb10 := hb10.keep X16_7 (by simp; omega)
          replace hoq := own_keep hoq X16_7 (fun k hk hm => by have := (hoq.lt k hk).1; simp at hm; omega)
          replace hb11 := h16_7
          refine s_nil ?_
          replace hb11 : Blk w167 b11 (pfC (!th) Sp.zeroA (.slice aq pth.length cq)) 33 := by
            rw [← pfC_put (th := th) (b := !th) (r' := Sp.zeroA) (s := .slice aq pth.length cq) htn]; exact hb11
          replace hHq := (hHq.keep X16_5 (fun p hp => by have := (hlqr p.block (by rw [hlq, hbq, hp]; simp)).1; simp; omega)).keep X16_7 (fun p hp => by have := (hlqr p.block (by rw [hlq, hbq, hp]; simp)).1; simp; omega)
          have hCq : Chg w124 w167 (b11 :: lq) := (X16_5.trans X16_7).mono (by intro k hk hlt; simp at hk ⊢; omega)
          have hzz := hCq.size
          exact hJ29 (!th) Sp.zeroA aq cq pth _ ⟨zeroA_num, hpo, by omega, hHq, fun p hp => by have := hlqr p.block (by rw [hlq, hbq, hp]; simp); omega, hb11, hCq, fun L hL hf he => forged_same hlw (by rw [hpth]) hpo hf he (.inr (fun _ => by rw [hth]; exact forged0 hlw)) hL⟩ _ ⟨rfl, rfl, rfl, rfl, trivial⟩
        · refine c_seqreg (fun K37 hK37 => ?_)
          refine s_val rfl rfl (runs_df (runs_eqd rfl rfl) (by omega)) ?_
          refine s_val rfl rfl (runs_assign rfl) ?_
          refine s_nil ?_
          refine hK37 _ _ ?_
          refine c_false rfl ?_
          refine c_seqreg (fun K40 hK40 => ?_)
          refine s_val rfl rfl (runs_dt (runs_eqd rfl rfl) (by omega)) ?_
          refine s_val rfl rfl (runs_assign rfl) ?_
          refine s_nil ?_
          refine hK40 _ _ ?_
          refine c_true rfl ?_
          refine c_reg ?_
          refine s_val rfl rfl (runs_fieldAddr Tryd.underlying33 rfl ty28 (by decide) rfl) ?_
          refine s_val rfl rfl (runs_fieldAddr Tryd.underlying28 rfl ty3 (by decide) rfl) ?_
          refine s_val rfl rfl (runs_load1 ty3 rfl (hb11.at 14 _ rfl)) ?_
          refine s_val rfl rfl (runs_add64 rfl rfl (by omega)) ?_
          refine s_val rfl rfl (runs_fieldAddr Tryd.underlying33 rfl ty28 (by decide) rfl) ?_
          refine s_val rfl rfl (runs_fieldAddr Tryd.underlying28 rfl ty3 (by decide) rfl) ?_
          refine s_store1 ty3 rfl rfl rfl hb11 (by rfl) (by rw [pfC_len htn]; decide) ?_
          intro w186 z18_6 h18_6 X18_6
          replace hG := hG.keep X18_6 (by simp; omega)
          replace hX : Chg w _ [] := (hX.trans X18_6).mono (by intro k hk hlt; simp at hk ⊢ <;> first | omega | grind)
          replace hb4 := hb4.keep X18_6 (by simp; omega)
          replace hb5 := hb5.keep X18_6 (by simp; omega)
          replace hT := hT.keep X18_6 (by simp [Rg] <;> omega)
          replace hb9 := hb9.keep X18_6 (by simp; omega)
          replace hb10 := hb10.keep X18_6 (by simp; omega)
          replace hoq := own_keep hoq X18_6 (fun k hk hm => by have := (hoq.lt k hk).1; simp at hm; omega)
          replace hb11 := h18_6
          refine s_nil ?_
          replace hb11 : Blk w186 b11 (pfC th (Sp.rows1 tA) (.slice aq pth.length cq)) 33 := hb11
          replace hHq := hHq.keep X18_6 (fun p hp => by have := (hlqr p.block (by rw [hlq, hbq, hp]; simp)).1; simp; omega)
          have hCq : Chg w124 w186 (b11 :: lq) := X18_6.mono (by intro k hk hlt; simp at hk ⊢; omega)
          have hzz := hCq.size
          exact hJ29 th (Sp.rows1 tA) aq cq pth _ ⟨rows1_num htn, hpo, by omega, hHq, fun p hp => by have := hlqr p.block (by rw [hlq, hbq, hp]; simp); omega, hb11, hCq, fun L hL hf he => forged_same hlw (by rw [hpth]) hpo hf he (.inr (fun hz => by rw [hth, htA] at hz ⊢; exact forged1 hlw hz)) hL⟩ _ ⟨rfl, rfl, rfl, rfl, trivial⟩
        · refine c_seqreg (fun K37 hK37 => ?_)
          refine s_val rfl rfl (runs_df (runs_eqd rfl rfl) (by omega)) ?_
          refine s_val rfl rfl (runs_assign rfl) ?_
          refine s_nil ?_
          refine hK37 _ _ ?_
          refine c_false rfl ?_
          refine c_seqreg (fun K42 hK42 => ?_)
          refine s_val rfl rfl (runs_df (runs_eqd rfl rfl) (by omega)) ?_
          refine s_val rfl rfl (runs_assign rfl) ?_
          refine s_nil ?_
          refine hK42 _ _ ?_
          refine c_false rfl ?_
          refine c_seqreg (fun K43 hK43 => ?_)
          refine s_val rfl rfl (runs_dt (runs_eqd rfl rfl) (by omega)) ?_
          refine s_val rfl rfl (runs_assign rfl) ?_
          refine s_nil ?_
          refine hK43 _ _ ?_
          refine c_true rfl ?_
          refine c_seq (fun K44 hK44 => ?_)
          refine c_seqreg (fun K45 hK45 => ?_)
          refine s_val rfl rfl (runs_fieldAddr Tryd.underlying33 rfl ty31 (by decide) rfl) ?_
          refine s_val rfl rfl (runs_load1 ty31 rfl (hb11.cell (o := 47) (pfC_path htn))) ?_
          refine s_val rfl rfl (runs_len_slice Tryd.underlying31 rfl) ?_
          refine s_val rfl rfl (runs_eqd rfl rfl) ?_
          refine s_nil ?_
          refine hK45 _ _ ?_
          refine c_dec rfl (fun hp0 => ?_) (fun hp0 => ?_)
          · refine c_seqreg (fun K46 hK46 => ?_)
            refine s_val rfl rfl (runs_assign rfl) ?_
            refine s_nil ?_
            refine hK46 _ _ ?_
            refine c_ret ?_
            refine hret _ _ ?_
            exact ends1 (reads_tmp rfl) ⟨rfl, hX⟩
          · obtain ⟨gq, cq2, e2, hB, hgq⟩ := hsb_of_own hoq hpo rfl (by omega)
            cases e2
            have hgl := hB.lt
            obtain ⟨k, hk⟩ : ∃ k, k = land64 z1 1023 % pth.length := ⟨_, rfl⟩
            have hkp : k < pth.length := by rw [hk]; exact Nat.mod_lt _ (by omega)
            obtain ⟨m, hm⟩ : ∃ m, m = land64 z1 31 := ⟨_, rfl⟩
            have hm32 : m < 32 := by have := land64_le (a := z1) (m := 31) (by decide); omega
            obtain ⟨xk, hxk⟩ : ∃ x, pth[k]? = some x := ⟨_, List.getElem?_eq_getElem hkp⟩
            have okk := hpo xk (List.mem_of_getElem? hxk)
            refine c_skip ?_
            refine hK44 _ _ ?_
            refine c_drawX [18] ([]) (by kernel_rfl) ?_
            intro wd22 Xd22 hS22
            replace hG := hG.keep Xd22 (by simp)
            replace hX : Chg w _ [] := (hX.trans Xd22).mono (by intro k hk hlt; simp at hk ⊢ <;> first | omega | grind)
            replace hb4 := hb4.keep Xd22 (by simp)
            replace hb5 := hb5.keep Xd22 (by simp)
            replace hT := hT.keep Xd22 (by simp)
            replace hb9 := hb9.keep Xd22 (by simp)
            replace hb10 := hb10.keep Xd22 (by simp)
            replace hb11 := hb11.keep Xd22 (by simp)
            replace hoq := own_keep hoq Xd22 (by simp)
            have zd22 := Xd22.size
            have hBd0 := hB.keep Xd22 (by simp)
            refine d_take 0 87 rfl (by kernel_rfl) rfl hS22 (fun wS hS => runs_fieldAddr Tryd.underlying33 rfl ty31 (by decide) rfl) ?_
            refine d_take 1 88 rfl (by kernel_rfl) rfl hS22 (fun wS hS => runs_load1 ty31 rfl ((hb11.keep hS (by simp)).cell (o := 47) (pfC_path htn))) ?_
            refine d_take 2 89 rfl (by kernel_rfl) rfl hS22 (fun wS hS => runs_index_array (1) Tryd.underlying49 ty3 rfl rfl (by omega) (by omega)) ?_
            refine d_take 3 90 rfl (by kernel_rfl) rfl hS22 (fun wS hS => runs_load1 ty3 rfl ((hb5.keep hS (by simp)).c1 (j := 1) rfl)) ?_
            refine d_take 4 91 rfl (by kernel_rfl) rfl hS22 (fun wS hS => runs_and64 1023 rfl (by decide)) ?_
            refine d_take 5 92 rfl (by kernel_rfl) rfl hS22 (fun wS hS => runs_fieldAddr Tryd.underlying33 rfl ty31 (by decide) rfl) ?_
            refine d_take 6 93 rfl (by kernel_rfl) rfl hS22 (fun wS hS => runs_load1 ty31 rfl ((hb11.keep hS (by simp)).cell (o := 47) (pfC_path htn))) ?_
            refine d_take 7 94 rfl (by kernel_rfl) rfl hS22 (fun wS hS => runs_len_slice Tryd.underlying31 rfl) ?_
            refine d_take 8 95 rfl (by kernel_rfl) rfl hS22 (fun wS hS => runs_as (v' := .int .i64 (k : Int)) (runs_rem64 rfl rfl (by omega) (by omega)) (congrArg (Value.int .i64) (by rw [hk]; simp))) ?_
            refine d_take 9 96 rfl (by kernel_rfl) rfl hS22 (fun wS hS => runs_index_array (1) Tryd.underlying49 ty3 rfl rfl (by omega) (by omega)) ?_
            refine d_take 10 97 rfl (by kernel_rfl) rfl hS22 (fun wS hS => runs_load1 ty3 rfl ((hb5.keep hS (by simp)).c1 (j := 1) rfl)) ?_
            refine d_take 11 98 rfl (by kernel_rfl) rfl hS22 (fun wS hS => runs_as (v' := .int .i64 (m : Int)) (runs_and64 31 rfl (by decide)) (by rw [hm])) ?_
            refine d_take 12 99 rfl (by kernel_rfl) rfl hS22 (fun wS hS => runs_index_slice (k) Tryd.underlying31 ty26 rfl rfl (by omega) (by omega)) ?_
            refine d_take 13 100 rfl (by kernel_rfl) rfl hS22 (fun wS hS => runs_index_array (m) Tryd.underlying26 ty5 rfl rfl (by omega) (by omega)) ?_
            refine d_take 14 101 rfl (by kernel_rfl) rfl hS22 (fun wS hS => runs_load1 ty5 rfl ((hBd0.keep hS (by simp)).byte hxk hm32)) ?_
            refine d_take 15 102 rfl (by kernel_rfl) rfl hS22 (fun wS hS => runs_inc8 rfl) ?_
            refine d_only 16 rfl (by kernel_rfl) ?_
            refine s_val rfl rfl (runs_index_slice (k) Tryd.underlying31 ty26 rfl rfl (by omega) (by omega)) ?_
            refine s_nil ⟨.inr hS22, ?_⟩
            refine d_take 17 104 rfl (by kernel_rfl) rfl hS22 (fun wS hS => runs_index_array (m) Tryd.underlying26 ty5 rfl rfl (by omega) (by omega)) ?_
            refine d_only 18 rfl (by kernel_rfl) ?_
            replace hG := hG.keep hS22 (by simp)
            replace hX : Chg w _ [] := (hX.trans hS22).mono (by intro k hk hlt; simp at hk ⊢ <;> first | omega | grind)
            replace hb4 := hb4.keep hS22 (by simp)
            replace hb5 := hb5.keep hS22 (by simp)
            replace hT := hT.keep hS22 (by simp)
            replace hb9 := hb9.keep hS22 (by simp)
            replace hb10 := hb10.keep hS22 (by simp)
            replace hb11 := hb11.keep hS22 (by simp)
            replace hoq := own_keep hoq hS22 (by simp)
            have hBd := hBd0.keep hS22 (by simp)
            obtain ⟨r20, hblk20⟩ := hBd.blk
            have hfl : (natsC .u8 pth.flatten).length = pth.length * 32 := by rw [natsC_length, flat32 hpo]
            refine s_store1 ty5 rfl rfl rfl hblk20 (by rfl) (by rw [List.length_append]; omega) ?_
            intro w22 z22 h22 X22
            replace hBd := hBd.bump hxk hm32 hblk20 h22
            replace hb11 := hb11.keep X22 (by simp; omega)
            have hzb := X22.size
            have hCq : Chg w124 w22 (b11 :: lq) := ((Xd22.trans hS22).trans X22).mono (by intro k hk hlt; simp at hk; subst hk; simp [hlq, Value.ownBlock])
            have hzz := hCq.size
            have hqne : pth.set k (Sp.bump xk m) ≠ pth := fun e => by
              have h1 : (pth.set k (Sp.bump xk m))[k]? = pth[k]? := by rw [e]
              rw [List.getElem?_set_self hkp, hxk] at h1
              exact bump_ne okk hm32 (Option.some.inj h1)
            refine s_nil ⟨.inl rfl, ?_⟩
            refine d_done (by kernel_rfl) ?_
            exact hJ29 th tA (some ⟨gq, 0, none⟩) _ (pth.set k (Sp.bump xk m)) _ ⟨htn, hBd.ok, by rw [List.length_set]; omega, by rw [List.length_set]; exact hBd.rd, fun p hp => by cases hp; have := hBd.lt; simp only; omega, by rw [List.length_set]; exact hb11, hCq, fun L hL hf he => forged_same hlw (by rw [List.length_set, hpth]) hBd.ok hf he (.inl (by rw [← hpth]; exact hqne)) hL⟩ _ ⟨rfl, rfl, rfl, rfl, trivial⟩
        · refine c_seqreg (fun K37 hK37 => ?_)
          refine s_val rfl rfl (runs_df (runs_eqd rfl rfl) (by omega)) ?_
          refine s_val rfl rfl (runs_assign rfl) ?_
          refine s_nil ?_
          refine hK37 _ _ ?_
          refine c_false rfl ?_
          refine c_seqreg (fun K48 hK48 => ?_)
          refine s_val rfl rfl (runs_df (runs_eqd rfl rfl) (by omega)) ?_
          refine s_val rfl rfl (runs_assign rfl) ?_
          refine s_nil ?_
          refine hK48 _ _ ?_
          refine c_false rfl ?_
          refine c_seqreg (fun K49 hK49 => ?_)
          refine s_val rfl rfl (runs_df (runs_eqd rfl rfl) (by omega)) ?_
          refine s_val rfl rfl (runs_assign rfl) ?_
          refine s_nil ?_
          refine hK49 _ _ ?_
          refine c_false rfl ?_
          refine c_drawX [6] (lq) (by kernel_rfl) ?_
          intro wd14 Xd14 hS14
          replace hG := hG.keep Xd14 (by simp)
          replace hX : Chg w _ [] := (hX.trans Xd14).mono (by intro k hk hlt; simp at hk ⊢ <;> first | omega | grind)
          replace hb4 := hb4.keep Xd14 (by simp)
          replace hb5 := hb5.keep Xd14 (by simp)
          replace hT := hT.keep Xd14 (by simp)
          replace hb9 := hb9.keep Xd14 (by simp)
          replace hb10 := hb10.keep Xd14 (by simp)
          replace hb11 := hb11.keep Xd14 (by simp)
          replace hoq := own_keep hoq Xd14 (by simp)
          have zd14 := Xd14.size
          have hb11s := hb11
          have hb11q : b11 ∉ lq := fun hm => by have := hlqr _ hm; omega
          refine d_take 0 59 rfl (by kernel_rfl) rfl hS14 (fun wS hS => runs_fieldAddr Tryd.underlying33 rfl ty31 (by decide) rfl) ?_
          refine d_take 1 60 rfl (by kernel_rfl) rfl hS14 (fun wS hS => runs_load1 ty31 rfl ((hb11s.keep hS hb11q).cell (o := 47) (pfC_path htn))) ?_
          refine d_only 2 rfl (by kernel_rfl) ?_
          refine s_callf (xs := [.const (.pointer none)]) rfl rfl Tryd.func19 rfl (by kernel_rfl) rfl (none0 hG (by omega)) ?_
          rintro _ w142 ⟨rfl, X14_2⟩
          replace hG := hG.keep X14_2 (by simp)
          replace hX : Chg w _ [] := (hX.trans X14_2).mono (by intro k hk hlt; simp at hk ⊢ <;> first | omega | grind)
          replace hT := hT.keep X14_2 (by simp)
          replace hb4 := hb4.keep X14_2 (by simp)
          replace hb9 := hb9.keep X14_2 (by simp)
          replace hb10 := hb10.keep X14_2 (by simp)
          replace hb11 := hb11.keep X14_2 (by simp)
          replace hb5 := hb5.keep X14_2 (by simp)
          replace hoq := own_keep hoq X14_2 (by simp)
          have zs14_2 := X14_2.size
          replace hS14 : Chg wd14 _ lq := (hS14.trans X14_2).mono (by intro k hk _; simpa using hk)
          refine s_nil ⟨.inr hS14, ?_⟩
          refine d_only 3 rfl (by kernel_rfl) ?_
          refine s_lit (xs := [.tmp 61]) Tryd.underlying31 ty26 rfl rfl rfl rfl rfl (hv_sz (l := [Sp.anone]) (by simpa using anone_ok)) (by decide) (by decide) ?_
          intro b62 w143 e14_3 z14_3 hb62 X14_3
          have s14_3_hX := hX.size
          have s14_3_hb4 := hb4.lt
          have s14_3_hb9 := hb9.lt
          have s14_3_hb10 := hb10.lt
          have s14_3_hb11 := hb11.lt
          have s14_3_hb5 := hb5.lt
          replace hG := hG.keep X14_3 (by simp)
          replace hX : Chg w _ [] := (hX.trans X14_3).mono (by intro k hk hlt; simp at hk ⊢ <;> first | omega | grind)
          replace hT := hT.keep X14_3 (by simp)
          replace hb4 := hb4.keep X14_3 (by simp)
          replace hb9 := hb9.keep X14_3 (by simp)
          replace hb10 := hb10.keep X14_3 (by simp)
          replace hb11 := hb11.keep X14_3 (by simp)
          replace hb5 := hb5.keep X14_3 (by simp)
          replace hoq := own_keep hoq X14_3 (by simp)
          replace hS14 : Chg wd14 _ lq := (hS14.trans X14_3).mono (by intro k hk _; simpa using hk)
          have hz143 := X14_3.size
          have hoq0 := hoq
          refine s_nil ⟨.inr hS14, ?_⟩
          refine d_only 4 rfl (by kernel_rfl) ?_
          refine s_append Tryd.underlying31 ty26 rfl (by decide) rfl rfl rfl hoq rfl (hs_lit [Sp.anone] hb62 (by simpa using anone_ok) rfl).rd (natsC_one _ _) (by simp only [maxLen]; omega) (by omega) (by have := hS14.size; omega) ?_
          intro v144 w144 H14_4 X14_4 F14_4
          replace hG := hG.keep X14_4 (fun k hm => by have := (hoq).lt k (by simpa using hm); omega)
          replace hX : Chg w _ [] := (hX.trans X14_4).mono (by intro k hk hlt; have := (hoq0.lt k (by simpa using hk)).1; omega)
          replace hT := hT.keep X14_4 (fun k hk => by have := (hoq0.lt k (by simpa using hk)).1; simp [Rg]; omega)
          replace hb4 := hb4.keep X14_4 (fun hm => by have := (hoq).lt _ (by simpa using hm); omega)
          replace hb9 := hb9.keep X14_4 (fun hm => by have := (hoq).lt _ (by simpa using hm); omega)
          replace hb10 := hb10.keep X14_4 (fun hm => by have := (hoq).lt _ (by simpa using hm); omega)
          replace hb11 := hb11.keep X14_4 (fun hm => by have := (hoq).lt _ (by simpa using hm); omega)
          replace hb5 := hb5.keep X14_4 (fun hm => by have := (hoq).lt _ (by simpa using hm); omega)
          have hoq := H14_4
          replace hS14 : Chg wd14 _ lq := (hS14.trans X14_4).mono (by intro k hk _; rcases List.mem_append.1 hk with hk | hk; exact hk; rw [hlq]; exact hk)
          refine s_nil ⟨.inr hS14, ?_⟩
          refine d_take 5 64 rfl (by kernel_rfl) rfl hS14 (fun wS hS => runs_fieldAddr Tryd.underlying33 rfl ty31 (by decide) rfl) ?_
          refine d_only 6 rfl (by kernel_rfl) ?_
          refine s_store1 ty31 rfl rfl rfl hb11 (own_one hoq) (by rw [pfC_len htn]; decide) ?_
          intro w146 z14_6 h14_6 X14_6
          replace hG := hG.keep X14_6 (by simp; omega)
          replace hX : Chg w _ [] := (hX.trans X14_6).mono (by intro k hk hlt; simp at hk ⊢ <;> first | omega | grind)
          replace hT := hT.keep X14_6 (by simp [Rg] <;> omega)
          replace hb4 := hb4.keep X14_6 (by simp; omega)
          replace hb9 := hb9.keep X14_6 (by simp; omega)
          replace hb10 := hb10.keep X14_6 (by simp; omega)
          replace hb5 := hb5.keep X14_6 (by simp; omega)
          replace hoq := own_keep hoq X14_6 (fun k hk hm => by have := (hoq.lt k hk).1; simp at hm; omega)
          replace hb11 := h14_6
          refine s_nil ⟨.inl rfl, ?_⟩
          refine d_done (by kernel_rfl) ?_
          replace hb11 : Blk w146 b11 (pfC th tA v144) 33 := by
            rw [← pfC_set (th := th) (s := .slice aq pth.length cq) (v := v144) htn]; exact hb11
          have hpo3 : ∀ x ∈ pth ++ [Sp.anone], HOk x := fun x hx => by
            rcases List.mem_append.1 hx with hx | hx
            · exact hpo x hx
            · simp at hx; rw [hx]; exact anone_ok
          replace hoq : w146.ownsRow w112.heap.size 26 32 v144 (pth ++ [Sp.anone]).length (natsC .u8 (pth ++ [Sp.anone]).flatten) := by
            rw [List.length_append, List.flatten_append, natsC_append]; exact hoq
          obtain ⟨a3, c3, rfl, hH3, hb3⟩ := own_hs hoq hpo3 rfl
          have h3r : ∀ p, a3 = some p → w112.heap.size ≤ p.block ∧ p.block < w146.heap.size := fun p hp => hoq.lt p.block (by rw [hb3, hp]; rfl)
          have hCq : Chg w124 w146 (b11 :: lq) := ((Xd14.trans hS14).trans X14_6).mono (by intro k hk hlt; simp at hk ⊢; rcases hk with h | h; exact .inr h; exact .inl h)
          exact hJ29 th tA a3 c3 (pth ++ [Sp.anone]) _ ⟨htn, hpo3, by rw [List.length_append]; simp; omega, hH3, h3r, hb11, hCq, fun L hL hf he => by subst hth htA hpth; exact forged3 hlw hf he hL⟩ _ ⟨rfl, rfl, rfl, rfl, trivial⟩
      refine c_seqreg (fun K54 hK54 => ?_)
      refine s_val rfl rfl (runs_index_array (0) Tryd.underlying49 ty3 rfl rfl (by omega) (by omega)) ?_
      refine s_val rfl rfl (runs_load1 ty3 rfl (hb5.c1 (j := 0) rfl)) ?_
      refine s_val rfl rfl (runs_and64 1 rfl (by decide)) ?_
      refine s_val rfl rfl (runs_eqd rfl rfl) ?_
      refine s_nil ?_
      refine hK54 _ _ ?_
      refine c_dec rfl (fun h1 => ?_) (fun h1 => ?_)
      · obtain ⟨i, hi⟩ : ∃ i, i = land64 z1 1023 % n1 := ⟨_, rfl⟩
        have hin : i < n1 := by rw [hi]; exact Nat.mod_lt _ (by omega)
        obtain ⟨y, hy⟩ : ∃ y, l[i]? = some y := ⟨_, List.getElem?_eq_getElem (by omega)⟩
        have hyn := hlw.num y (List.mem_of_getElem? hy)
        obtain ⟨ba1, oa1, rfl⟩ := hRl.rd.some_ (by omega)
        refine c_reg ?_
        refine s_val rfl rfl (runs_move rfl) ?_
        refine s_val rfl rfl (runs_index_array (1) Tryd.underlying49 ty3 rfl rfl (by omega) (by omega)) ?_
        refine s_val rfl rfl (runs_load1 ty3 rfl (hb5.c1 (j := 1) rfl)) ?_
        refine s_val rfl rfl (runs_and64 1023 rfl (by decide)) ?_
        refine s_val rfl rfl (runs_move rfl) ?_
        refine s_val rfl rfl (runs_len_slice Tryd.underlying38 rfl) ?_
        refine s_val rfl rfl (runs_as (v' := .int .i64 (i : Int)) (runs_rem64 rfl rfl (by omega) (by omega)) (congrArg (Value.int .i64) (by rw [hi]; simp))) ?_
        refine s_val rfl rfl (runs_index_slice (i) Tryd.underlying38 ty28 rfl rfl (by omega) (by omega)) ?_
        refine s_val rfl rfl (runs_fieldAddr Tryd.underlying28 rfl ty24 (by decide) rfl) ?_
        refine s_val rfl rfl (runs_loadAgg ty24 rfl ((hRl.elem hy).sub 0 2) (by rfl)) ?_
        refine s_storeAll ty24 rfl rfl rfl hb4 (numC_len y.id) (numC_len _) (numC_one y.id) ?_
        intro w710 z7_10 h7_10 X7_10
        replace hG := hG.keep X7_10 (by simp; omega)
        replace hX : Chg w _ [] := (hX.trans X7_10).mono (by intro k hk hlt; simp at hk ⊢ <;> first | omega | grind)
        replace hb5 := hb5.keep X7_10 (by simp; omega)
        replace hRl := hRl.keep X7_10 (fun p hp => by have := hal1 p hp; simp; omega)
        replace hb4 := h7_10
        refine s_nil ?_
        replace hb4 : Blk w710 b4 (numC y.id) 24 := hb4
        first
          | exact hJ12 y.id _ ⟨hyn.id, X7_10, hb4⟩ _ ⟨rfl, rfl, rfl, trivial⟩
          | exact hJ12 id _ ⟨hid, Chg.refl _ _, hb4⟩ _ ⟨rfl, rfl, rfl, trivial⟩
      · refine c_skip ?_
        first
          | exact hJ12 y.id _ ⟨hyn.id, X7_10, hb4⟩ _ ⟨rfl, rfl, rfl, trivial⟩
          | exact hJ12 id _ ⟨hid, Chg.refl _ _, hb4⟩ _ ⟨rfl, rfl, rfl, trivial⟩
  · refine c_seqreg (fun K10 hK10 => ?_)
    refine s_val rfl rfl (runs_df (runs_move rfl) h20) ?_
    refine s_val rfl rfl (runs_not rfl) ?_
    refine s_val rfl rfl (runs_move rfl) ?_
    refine s_skip rfl rfl ?_
    refine s_skip rfl rfl ?_
    refine s_skip rfl rfl ?_
    refine s_val rfl rfl (runs_pickt rfl rfl) ?_
    refine s_nil ?_
    refine hK10 _ _ ?_
    refine c_true rfl ?_
    refine c_seqreg (fun K56 hK56 => ?_)
    refine s_val rfl rfl (runs_assign rfl) ?_
    refine s_nil ?_
    refine hK56 _ _ ?_
    refine c_ret ?_
    refine hret _ _ ?_
    exact ends1 (reads_tmp rfl) ⟨rfl, hX⟩
end Go.Proofs.YtmmijecookbajaaDoor
