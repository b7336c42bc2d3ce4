/- Part St24 of the proofs on this seat. Conditions: none beyond those in the theorems. By an AI agent. -/
import Derived.Test.YtmmijecookbajaaDoorSt23
namespace Go.Proofs.YtmmijecookbajaaDoor
open Go Go.RowKit

theorem Wf.sublist {k : Nat} {l l' : List Ac} (h : Wf k l) (hs : l'.Sublist l) : Wf k l' :=
  ⟨h.k_le, h.rise.sublist hs, fun a ha b hb => h.same a (hs.subset ha) b (hs.subset hb), fun a ha => h.num a (hs.subset ha)⟩
theorem anotes_short : ∀ (m k : Nat) (l : List Ac), 128 - k < m → Wf k l → ∀ z ∈ Sp.anotes k l, z.length ≤ 131 := by
  intro m
  induction m with
  | zero => intro k l h; omega
  | succ m ih =>
    intro k l hm h z hz
    by_cases h2 : 2 ≤ l.length
    · have hk := h.lt h2
      rw [anotes_two hk h2] at hz
      simp only [List.mem_append, List.mem_singleton] at hz
      rcases hz with (hz | hz) | rfl
      · exact ih (k + 1) _ (by omega) (h.lo hk) z hz
      · exact ih (k + 1) _ (by omega) (h.hi hk) z hz
      · simp [(aroot_ok _ _).1]
    · match l, h, h2, hz with
      | [], h, _, hz => rw [anotes_nil h.k_le] at hz; simp at hz; subst hz; simp
      | [a], h, _, hz => rw [anotes_one h.k_le] at hz; simp at hz; subst hz; simp [acB_len (h.num a (by simp))]
      | _ :: _ :: _, _, h2, _ => simp at h2
theorem coll0 {l l' : List Ac} {L : List (List Nat)} (h : Wf 0 l) (h' : Wf 0 l') (ok : ∀ a ∈ l, a.Ok) (ok' : ∀ a ∈ l', a.Ok) (he : Sp.aroot 0 l = Sp.aroot 0 l') (hne : l ≠ l') (hL : ∀ z, z ∈ Sp.anotes 0 l ∨ z ∈ Sp.anotes 0 l' → z ∈ L) : Sp.Clash L :=
  (aroot_coll 129 0 l l' (by omega) h h' ok ok' he hne).mono fun z hz => hL z (List.mem_append.1 hz)
theorem less_sub (l : List Ac) (i : Nat) : (l.take i ++ l.drop (i + 1)).Sublist l := by
  have h := List.Sublist.append (List.Sublist.refl (l.take i)) (List.drop_sublist 1 (l.drop i))
  rw [List.drop_drop, List.take_append_drop] at h
  exact h
theorem less_ne {l : List Ac} {i : Nat} (h : i < l.length) : l.take i ++ l.drop (i + 1) ≠ l := fun e => by
  have := congrArg List.length e
  rw [List.length_append, List.length_take, List.length_drop] at this
  omega
set_option maxHeartbeats 4000000 in
theorem rootsS_calls (B : Nat) (ls : List Ac) (a : Option Addr) (n c : Nat) (kz : Int) (x : Ac) (w : World) (hG0 : GH B w) (hBw : B ≤ w.heap.size) (hR : AcR w a n c ls) (hn : n * 144 ≤ 140737488355328) (hx : x.Num) :
    CallsR Tryd.prog 8 #[.slice a n c, .int .i64 kz, av x] w fun v w' => v = .bool true ∧ Chg w w' [] := by
  have hX : Chg w w [] := Chg.refl _ _
  have hG := hG0
  have hyok := tameA_ok hx
  obtain ⟨y, hy⟩ : ∃ y, y = Sp.tameA x := ⟨_, rfl⟩
  rw [← hy] at hyok
  have hyn := hyok.num
  refine f_enter (l := [.slice a n c, .int .i64 kz, av x]) Tryd.func8 rfl rfl rfl rfl ?_
  intro Qf hnrm hret
  refine c_seqreg (fun K1 hK1 => ?_)
  refine s_box rfl rfl rfl ?_
  intro b5 w0 e0_0 z0_0 hb5 X0_0
  have s0_0_hX := hX.size
  replace hG := hG.keep X0_0 (by simp)
  replace hX : Chg w _ [] := (hX.trans X0_0).mono (by intro k hk hlt; simp at hk ⊢ <;> first | omega | grind)
  replace hb5 : Blk w0 b5 (x.C) 28 := hb5
  refine s_val rfl rfl (runs_assign rfl) ?_
  refine s_nil ?_
  have hl5 := hb5.lt
  refine hK1 _ _ ?_
  refine c_seq (fun K3 hK3 => ?_)
  refine c_seqreg (fun K4 hK4 => ?_)
  refine s_callf (xs := []) rfl rfl Tryd.func10 rfl (by kernel_rfl) rfl (fit_calls B _ hG (by omega)) ?_
  rintro _ w1 ⟨rfl, X1_0⟩
  replace hG := hG.keep X1_0 (by simp)
  replace hX : Chg w _ [] := (hX.trans X1_0).mono (by intro k hk hlt; simp at hk ⊢ <;> first | omega | grind)
  replace hb5 := hb5.keep X1_0 (by simp)
  have zs1_0 := X1_0.size
  refine s_val rfl rfl (runs_not rfl) ?_
  refine s_nil ?_
  refine hK4 _ _ ?_
  refine c_false rfl ?_
  refine c_skip ?_
  refine hK3 _ _ ?_
  refine c_seqreg (fun K6 hK6 => ?_)
  refine s_val rfl rfl (runs_move rfl) ?_
  refine s_callf (xs := [.tmp 16]) rfl rfl Tryd.func14 rfl (by kernel_rfl) rfl (few_calls B ls a n c _ hG (by omega) (hR.keep0 hX) hn) ?_
  rintro _ w31 ⟨v1, rfl, hown, X3_1⟩
  replace hG := hG.keep X3_1 (by simp)
  replace hX : Chg w _ [] := (hX.trans X3_1).mono (by intro k hk hlt; simp at hk ⊢ <;> first | omega | grind)
  replace hb5 := hb5.keep X3_1 (by simp)
  have zs3_1 := X3_1.size
  have hlw := few_wf hR.ok
  have hlok := few_ok hR.ok
  have hll := few_len ls
  rw [hR.len] at hll
  obtain ⟨l, hl⟩ : ∃ l, l = Sp.few ls := ⟨_, rfl⟩
  rw [← hl] at hown hlw hlok hll
  obtain ⟨n1, hn1⟩ : ∃ k, k = l.length := ⟨_, rfl⟩
  rw [← hn1] at hown hll
  obtain ⟨a1, c1, rfl, hRl, hob1⟩ := own_acs hown hlw.num hn1.symm
  have hal : ∀ p, a1 = some p → p.block < w31.heap.size := fun p hp => (hown.lt p.block (by rw [hob1, hp]; rfl)).2
  have hzX3 := hX.size
  have hal1 : ∀ p, a1 = some p → w1.heap.size ≤ p.block := fun p hp => (hown.lt p.block (by rw [hob1, hp]; rfl)).1
  refine s_val rfl rfl (runs_move rfl) ?_
  refine s_val rfl rfl (runs_extract rfl rfl) ?_
  refine s_val rfl rfl (runs_extract rfl rfl) ?_
  refine s_val rfl rfl (runs_assign rfl) ?_
  refine s_val rfl rfl (runs_assign rfl) ?_
  refine s_nil ?_
  refine hK6 _ _ ?_
  refine c_seq (fun K8 hK8 => ?_)
  rcases Decidable.em ((n : Int) ≤ 20) with h20 | h20
  · refine c_seqreg (fun K9 hK9 => ?_)
    refine s_val rfl rfl (runs_dt (runs_move rfl) h20) ?_
    refine s_val rfl rfl (runs_not rfl) ?_
    refine s_nil ?_
    refine hK9 _ _ ?_
    refine c_false rfl ?_
    refine c_skip ?_
    refine hK8 _ _ ?_
    refine c_seqreg (fun K10 hK10 => ?_)
    refine s_val rfl rfl (runs_loadAgg ty28 rfl hb5.at (Ac.len hx)) ?_
    refine s_callf (xs := [.tmp 22]) rfl rfl Tryd.func11 rfl (by kernel_rfl) rfl (tame_calls x _ hx) ?_
    rintro _ w61 ⟨rfl, X6_1⟩
    replace hG := hG.keep X6_1 (by simp)
    replace hX : Chg w _ [] := (hX.trans X6_1).mono (by intro k hk hlt; simp at hk ⊢ <;> first | omega | grind)
    replace hb5 := hb5.keep X6_1 (by simp)
    replace hRl := hRl.keep0 X6_1
    have zs6_1 := X6_1.size
    rw [← hy]
    refine s_storeAll ty28 rfl rfl rfl hb5 (Ac.len hyn) (Ac.len hx) (Ac.one _) ?_
    intro w62 z6_2 h6_2 X6_2
    replace hG := hG.keep X6_2 (by simp; omega)
    replace hX : Chg w _ [] := (hX.trans X6_2).mono (by intro k hk hlt; simp at hk ⊢ <;> first | omega | grind)
    replace hRl := hRl.keep X6_2 (fun p hp => by have h1 := hal p hp; have h2 := hal1 p hp; simp; omega)
    replace hb5 := h6_2
    refine s_nil ?_
    have hzX6 := hX.size
    refine hK10 _ _ ?_
    refine c_seqreg (fun K13 hK13 => ?_)
    refine s_val rfl rfl (runs_build_zeroS (xs := #[(0, 1)]) Tryd.underlying53 ty53 rfl (by kernel_rfl)) ?_
    refine s_box rfl rfl rfl ?_
    intro bt w7t e7_1 z7_1 hbt X7_1
    have s7_1_hX := hX.size
    have s7_1_hb5 := hb5.lt
    replace hG := hG.keep X7_1 (by simp)
    replace hX : Chg w _ [] := (hX.trans X7_1).mono (by intro k hk hlt; simp at hk ⊢ <;> first | omega | grind)
    replace hb5 := hb5.keep X7_1 (by simp)
    replace hRl := hRl.keep0 X7_1
    replace hbt : Blk w7t bt ([.slice none 0 0]) 53 := hbt
    have hlbt := hbt.lt
    have hT := TL.new (B := B) (lo := bt) hbt (by omega) (Nat.le_refl _)
    refine s_val rfl rfl (runs_assign rfl) ?_
    refine s_nil ?_
    refine hK13 _ _ ?_
    refine c_seqreg (fun K15 hK15 => ?_)
    refine s_val rfl rfl (runs_move rfl) ?_
    refine s_val rfl rfl (runs_move rfl) ?_
    refine s_callf (xs := [.tmp 26, .const (.int .i64 0), .tmp 27]) rfl rfl Tryd.func15 rfl (by kernel_rfl) rfl (hT.aroot [] (by simp) hG (by omega) hlw hRl (fun p hp => .inl (by have := hal p hp; omega)) (by omega) (by simp)) ?_
    rintro _ w82 ⟨rfl, vt82, hC82⟩
    replace hG := hG.keep hC82.chg (fun k hk => by have h := hC82.ft k hk; simp [Rg] at h <;> omega)
    replace hX : Chg w _ [] := (hX.trans hC82.chg).mono (by intro k hk hlt; have h := hC82.ft k (by simpa using hk); simp [Rg] at h <;> omega)
    replace hb5 := hb5.keep hC82.chg (fun hm => by have h := hC82.ft _ hm; simp [Rg] at h <;> omega)
    replace hRl := hRl.keep hC82.chg (fun p hp hm => by have h := hC82.ft _ hm; have := hal p hp; simp [Rg] at h <;> omega)
    have zs8_2 := hC82.chg.size
    have hT := hC82.tl
    refine s_alloc ty26 rfl rfl ?_
    intro b9 w83 e8_3 z8_3 hb9 X8_3
    have s8_3_hX := hX.size
    have s8_3_hb5 := hb5.lt
    replace hG := hG.keep X8_3 (by simp)
    replace hX : Chg w _ [] := (hX.trans X8_3).mono (by intro k hk hlt; simp at hk ⊢ <;> first | omega | grind)
    replace hb5 := hb5.keep X8_3 (by simp)
    replace hRl := hRl.keep0 X8_3
    replace hT := hT.keep X8_3 (by simp)
    refine s_storeAll ty26 rfl rfl rfl hb9 (by rw [natsC_length, (aroot_ok _ _).1]) rfl (natsC_one _ _) ?_
    intro w84 z8_4 h8_4 X8_4
    replace hG := hG.keep X8_4 (by simp; omega)
    replace hX : Chg w _ [] := (hX.trans X8_4).mono (by intro k hk hlt; simp at hk ⊢ <;> first | omega | grind)
    replace hb5 := hb5.keep X8_4 (by simp; omega)
    replace hRl := hRl.keep X8_4 (fun p hp => by have := hal p hp; simp; omega)
    replace hT := hT.keep X8_4 (by simp [Rg] <;> omega)
    replace hb9 := h8_4
    refine s_nil ?_
    have hl9 := hb9.lt
    have hzX8 := hX.size
    have hz82 : w82.heap.size ≤ b9 := by omega
    refine hK15 _ _ ?_
    refine c_seqreg (fun K19 hK19 => ?_)
    refine s_val rfl rfl (runs_loadAgg ty28 rfl hb5.at (Ac.len hyn)) ?_
    refine s_lit (xs := [.tmp 29]) Tryd.underlying38 ty28 rfl rfl rfl rfl rfl (av_sz (l := [y]) (by simpa using hyn)) (by decide) (by decide) ?_
    intro b30 w91 e9_1 z9_1 hb30 X9_1
    have s9_1_hX := hX.size
    have s9_1_hb5 := hb5.lt
    have s9_1_hb9 := hb9.lt
    replace hG := hG.keep X9_1 (by simp)
    replace hX : Chg w _ [] := (hX.trans X9_1).mono (by intro k hk hlt; simp at hk ⊢ <;> first | omega | grind)
    replace hb5 := hb5.keep X9_1 (by simp)
    replace hRl := hRl.keep0 X9_1
    replace hT := hT.keep X9_1 (by simp)
    replace hb9 := hb9.keep X9_1 (by simp)
    refine s_val rfl rfl (runs_move rfl) ?_
    refine s_append Tryd.underlying38 ty28 rfl (by decide) rfl rfl rfl (own_alit (B := b30) hb30 hyn (Nat.le_refl _)) rfl hRl.rd (acs_one _) (by simp only [maxLen]; omega) (by omega) (by have := hb30.lt; omega) ?_
    intro v93 w93 H9_3 X9_3 F9_3
    replace hG := hG.keep X9_3 (fun k hm => by simp [Value.ownBlock] at hm; omega)
    replace hX : Chg w _ [] := (hX.trans X9_3).mono (by intro k hk hlt; simp [Value.ownBlock] at hk; omega)
    replace hRl := hRl.keep X9_3 (fun p hp => by have := hal p hp; simp [Value.ownBlock]; omega)
    replace hT := hT.keep X9_3 (by simp [Value.ownBlock, Rg]; omega)
    replace hb9 := hb9.keep X9_3 (by simp [Value.ownBlock]; omega)
    have hcat : [y].flatMap Ac.C ++ l.flatMap Ac.C = (y :: l).flatMap Ac.C := by simp
    rw [hcat] at H9_3
    have hyl : ∀ a ∈ y :: l, a.Num := by simpa using ⟨hyn, hlw.num⟩
    obtain ⟨a93, c93, rfl, hR93, hb93⟩ := own_acs H9_3 hyl (by simp only [List.length_cons]; omega)
    have hz93 := X9_3.size
    refine s_callf (xs := [.tmp 32]) rfl rfl Tryd.func21 rfl (by kernel_rfl) rfl (rising_calls B (y :: l) _ _ _ _ hG (by omega) hR93 (by omega)) ?_
    rintro v94 w94 ⟨hom, X9_4⟩
    replace hG := hG.keep X9_4 (by simp)
    replace hX : Chg w _ [] := (hX.trans X9_4).mono (by intro k hk hlt; simp at hk ⊢ <;> first | omega | grind)
    replace hRl := hRl.keep0 X9_4
    replace hT := hT.keep X9_4 (by simp)
    replace hb9 := hb9.keep X9_4 (by simp)
    have zs9_4 := X9_4.size
    obtain ⟨more, hmore⟩ : ∃ m, m = Sp.rising (y :: l) := ⟨_, rfl⟩
    have hmw : Wf 0 more := by rw [hmore]; exact rising_wf hyl
    have hmok : ∀ a ∈ more, a.Ok := fun a ha => by
      rw [hmore] at ha
      have := rising_mem ha
      rcases List.mem_cons.1 this with rfl | h
      · exact hyok
      · exact hlok a h
    have hml : more.length ≤ 21 := by
      have := rising_len (y :: l)
      rw [← hmore, List.length_cons] at this
      omega
    rw [← hmore] at hom
    obtain ⟨nm, hnm⟩ : ∃ k, k = more.length := ⟨_, rfl⟩
    rw [← hnm] at hom hml
    obtain ⟨am, cm, rfl, hRm, hbm⟩ := own_acs hom hmw.num hnm.symm
    obtain ⟨lm, hlm⟩ : ∃ lm, lm = (am.map (·.block)).toList := ⟨_, rfl⟩
    have hlmr : ∀ z ∈ lm, w93.heap.size ≤ z ∧ z < w94.heap.size := fun z hz => hom.lt z (by rw [hbm]; rw [hlm] at hz; simpa using hz)
    have hlmp : ∀ p, am = some p → p.block ∈ lm := fun p hp => by rw [hlm, hp]; simp
    refine s_val rfl rfl (runs_assign rfl) ?_
    refine s_nil ?_
    have hzX9 := hX.size
    refine hK19 _ _ ?_
    refine c_seqreg (fun K23 hK23 => ?_)
    refine s_val rfl rfl (runs_move rfl) ?_
    refine s_val rfl rfl (runs_move rfl) ?_
    refine s_callf (xs := [.tmp 34, .const (.int .i64 0), .tmp 35]) rfl rfl Tryd.func15 rfl (by kernel_rfl) rfl (hT.aroot (b9 :: lm) (fun z hz => by rcases List.mem_cons.1 hz with rfl | hz; omega; have := hlmr z hz; omega) hG (by omega) hmw hRm (fun p hp => .inr (by simp [hlmp p hp])) (by omega) (by have := anotes_few hlw (by omega); simp; omega)) ?_
    rintro _ w102 ⟨rfl, vt102, hC102⟩
    replace hG := hG.keep hC102.chg (fun k hk => by have h := hC102.ft k hk; simp [Rg] at h <;> omega)
    replace hX : Chg w _ [] := (hX.trans hC102.chg).mono (by intro k hk hlt; have h := hC102.ft k (by simpa using hk); simp [Rg] at h <;> omega)
    replace hRl := hRl.keep hC102.chg (fun p hp hm => by have h := hC102.ft _ hm; have := hal p hp; simp [Rg] at h <;> omega)
    replace hb9 := hb9.keep hC102.chg (fun hm => by have h := (hC102.ft _ hm).2.2; simp at h)
    replace hRm := hRm.keep hC102.chg (fun p hp hm => by have h := (hC102.ft _ hm).2.2; simp [hlmp p hp] at h)
    have zs10_2 := hC102.chg.size
    have hT := hC102.tl
    refine s_alloc ty26 rfl rfl ?_
    intro b11 w103 e10_3 z10_3 hb11 X10_3
    have s10_3_hX := hX.size
    have s10_3_hb9 := hb9.lt
    replace hG := hG.keep X10_3 (by simp)
    replace hX : Chg w _ [] := (hX.trans X10_3).mono (by intro k hk hlt; simp at hk ⊢ <;> first | omega | grind)
    replace hRl := hRl.keep0 X10_3
    replace hb9 := hb9.keep X10_3 (by simp)
    replace hRm := hRm.keep0 X10_3
    replace hT := hT.keep X10_3 (by simp)
    refine s_storeAll ty26 rfl rfl rfl hb11 (by rw [natsC_length, (aroot_ok _ _).1]) rfl (natsC_one _ _) ?_
    intro w104 z10_4 h10_4 X10_4
    replace hG := hG.keep X10_4 (by simp; omega)
    replace hX : Chg w _ [] := (hX.trans X10_4).mono (by intro k hk hlt; simp at hk ⊢ <;> first | omega | grind)
    replace hRl := hRl.keep X10_4 (fun p hp => by have := hal p hp; simp; omega)
    replace hb9 := hb9.keep X10_4 (by simp; omega)
    replace hRm := hRm.keep X10_4 (fun p hp => by have := hlmr _ (hlmp p hp); simp; omega)
    replace hT := hT.keep X10_4 (by simp [Rg] <;> omega)
    replace hb11 := h10_4
    refine s_nil ?_
    have hl11 := hb11.lt
    have hzX10 := hX.size
    refine hK23 _ _ ?_
    refine c_seq (fun K27 hK27 => ?_)
    have hJ27 : ∀  (W : World), (Chg w104 W []) → ∀ ρ : Env, SubL ([(9, .pointer (some ⟨b9, 0, none⟩)), (8, .pointer (some ⟨bt, 0, none⟩)), (1, .int .i64 kz), (0, .slice a1 n1 c1)]) ρ → K27 ρ W := by
      intro  W hI ρ hρ
      refine hK27 _ _ (c_sub _ hρ ?_)
      clear hρ
      replace hG := hG.keep hI (by simp)
      replace hX : Chg w W [] := (hX.trans hI).mono (by intro k hk _; simp at hk)
      replace hT := hT.keep0 hI
      replace hRl := hRl.keep0 hI
      replace hb9 := hb9.keep hI (by simp)
      have hzX11 := hX.size
      have hzI := hI.size
      refine c_seq (fun K28 hK28 => ?_)
      refine c_seqreg (fun K29 hK29 => ?_)
      refine s_val rfl rfl (runs_move rfl) ?_
      refine s_val rfl rfl (runs_len_slice Tryd.underlying38 rfl) ?_
      refine s_val rfl rfl (runs_eqd rfl rfl) ?_
      refine s_nil ?_
      refine hK29 _ _ ?_
      refine c_dec rfl (fun h0 => ?_) (fun h0 => ?_)
      · obtain rfl : l = [] := List.eq_nil_of_length_eq_zero (by omega)
        refine c_seqdraw [] ([]) (by kernel_rfl) ?_
        intro K30 hK30 wd17 Xd17 hS17
        replace hG := hG.keep Xd17 (by simp)
        replace hX : Chg w _ [] := (hX.trans Xd17).mono (by intro k hk hlt; simp at hk ⊢ <;> first | omega | grind)
        replace hT := hT.keep Xd17 (by simp)
        replace hRl := hRl.keep0 Xd17
        replace hb9 := hb9.keep Xd17 (by simp)
        have zd17 := Xd17.size
        refine d_take 0 51 rfl (by kernel_rfl) rfl hS17 (fun wS hS => runs_loadAgg ty26 rfl ((hb9.keep hS (by simp)).at) (by rw [natsC_length, (aroot_ok _ _).1])) ?_
        refine d_only 1 rfl (by kernel_rfl) ?_
        refine s_callf (xs := [.const (.pointer none)]) rfl rfl Tryd.func19 rfl (by kernel_rfl) rfl (none0 (hG.keep hS17 (by simp)) (by have := hS17.size; omega)) ?_
        rintro _ w171 ⟨rfl, X17_1⟩
        have zs17_1 := X17_1.size
        replace hS17 : Chg wd17 _ [] := hS17.trans X17_1
        refine s_nil ⟨.inr hS17, ?_⟩
        refine d_take 2 53 rfl (by kernel_rfl) rfl hS17 (fun wS hS => runs_dt (runs_hv_eq rfl rfl (aroot_ok _ _) anone_ok) (aroot_nil (k := 0) (by omega))) ?_
        refine d_take 3 6 rfl (by kernel_rfl) rfl hS17 (fun wS hS => runs_assign rfl) ?_
        refine d_done (by kernel_rfl) ?_
        replace hG := hG.keep hS17 (by simp)
        replace hX : Chg w _ [] := (hX.trans hS17).mono (by intro k hk hlt; simp at hk ⊢ <;> first | omega | grind)
        replace hT := hT.keep hS17 (by simp)
        replace hRl := hRl.keep0 hS17
        replace hb9 := hb9.keep hS17 (by simp)
        refine hK30 _ _ ?_
        refine c_ret ?_
        refine hret _ _ ?_
        exact ends1 (reads_tmp rfl) ⟨rfl, hX⟩
      · obtain ⟨i, hi⟩ : ∃ i, i = land64 kz 1023 % n1 := ⟨_, rfl⟩
        have hin : i < n1 := by rw [hi]; exact Nat.mod_lt _ (by omega)
        have hcn1 := hRl.rd.le
        obtain ⟨less, hless⟩ : ∃ s, s = l.take i ++ l.drop (i + 1) := ⟨_, rfl⟩
        have hlew : Wf 0 less := by rw [hless]; exact hlw.sublist (less_sub l i)
        have hleok : ∀ a ∈ less, a.Ok := fun a ha => by rw [hless] at ha; exact hlok a ((less_sub l i).subset ha)
        have hlene : less ≠ l := by rw [hless]; exact less_ne (by omega)
        have hlel : less.length = n1 - 1 := by rw [hless, List.length_append, List.length_take, List.length_drop]; omega
        refine c_skip ?_
        refine hK28 _ _ ?_
        refine c_seqreg (fun K32 hK32 => ?_)
        refine s_val rfl rfl (runs_move rfl) ?_
        refine s_val rfl rfl (runs_and64 1023 rfl (by decide)) ?_
        refine s_val rfl rfl (runs_move rfl) ?_
        refine s_val rfl rfl (runs_len_slice Tryd.underlying38 rfl) ?_
        refine s_val rfl rfl (runs_as (v' := .int .i64 (i : Int)) (runs_rem64 rfl rfl (by omega) (by omega)) (congrArg (Value.int .i64) (by rw [hi]; simp))) ?_
        refine s_val rfl rfl (runs_assign rfl) ?_
        refine s_nil ?_
        refine hK32 _ _ ?_
        refine c_seqdraw [] ([]) (by kernel_rfl) ?_
        intro K33 hK33 wd19 Xd19 hS19
        replace hG := hG.keep Xd19 (by simp)
        replace hX : Chg w _ [] := (hX.trans Xd19).mono (by intro k hk hlt; simp at hk ⊢ <;> first | omega | grind)
        replace hT := hT.keep Xd19 (by simp)
        replace hRl := hRl.keep0 Xd19
        replace hb9 := hb9.keep Xd19 (by simp)
        have zd19 := Xd19.size
        refine d_take 0 59 rfl (by kernel_rfl) rfl hS19 (fun wS hS => runs_move rfl) ?_
        refine d_take 1 60 rfl (by kernel_rfl) rfl hS19 (fun wS hS => runs_move rfl) ?_
        refine d_take 2 61 rfl (by kernel_rfl) rfl hS19 (fun wS hS => runs_slice_to (i) Tryd.underlying38 ty28 rfl rfl (by omega) (by omega)) ?_
        refine d_take 4 63 rfl (by kernel_rfl) rfl hS19 (fun wS hS => runs_move rfl) ?_
        refine d_take 5 64 rfl (by kernel_rfl) rfl hS19 (fun wS hS => runs_move rfl) ?_
        refine d_take 6 65 rfl (by kernel_rfl) rfl hS19 (fun wS hS => runs_as (v' := .int .i64 ((i + 1 : Nat) : Int)) (runs_add64 rfl rfl (by omega)) (congrArg (Value.int .i64) (by omega))) ?_
        refine d_take 7 66 rfl (by kernel_rfl) rfl hS19 (fun wS hS => runs_slice_from (i + 1) Tryd.underlying38 ty28 rfl rfl (by omega) (by omega)) ?_
        refine d_only 3 rfl (by kernel_rfl) ?_
        refine s_append Tryd.underlying38 ty28 rfl (by decide) rfl rfl rfl (World.ownsRow_nil _ wd19.heap.size _ _) rfl (hRl.to_ i (by omega)).rd (acs_one _) (by simp only [maxLen]; omega) (by omega) (by have := hS19.size; omega) ?_
        intro v193 w193 H19_3 X19_3 F19_3
        replace X19_3 : Chg _ _ [] := X19_3
        replace hRl := hRl.keep0 X19_3
        have hz193 := X19_3.size
        replace hS19 : Chg wd19 _ [] := hS19.trans X19_3
        refine s_nil ⟨.inr hS19, ?_⟩
        refine d_only 8 rfl (by kernel_rfl) ?_
        refine s_append Tryd.underlying38 ty28 rfl (by decide) rfl rfl rfl H19_3 rfl (hRl.from_ (i + 1) (by omega)).rd (acs_one _) (by simp only [maxLen]; omega) (by omega) (by have := hS19.size; omega) ?_
        intro v198 w198 H19_8 X19_8 F19_8
        replace hRl := hRl.keep X19_8 (fun p hp hm => by have := (H19_3.lt _ (by simpa using hm)).1; have := hal p hp; omega)
        have hole := H19_8
        replace hS19 : Chg wd19 _ [] := (hS19.trans X19_8).mono (by intro k hk hlt; simp only [List.nil_append] at hk; have := (H19_3.lt k (by simpa using hk)).1; omega)
        refine s_nil ⟨.inr hS19, ?_⟩
        refine d_take 9 12 rfl (by kernel_rfl) rfl hS19 (fun wS hS => runs_assign rfl) ?_
        refine d_done (by kernel_rfl) ?_
        replace hG := hG.keep hS19 (by simp)
        replace hX : Chg w _ [] := (hX.trans hS19).mono (by intro k hk hlt; simp at hk ⊢ <;> first | omega | grind)
        replace hT := hT.keep hS19 (by simp)
        replace hb9 := hb9.keep hS19 (by simp)
        replace hole : w198.ownsRow wd19.heap.size 28 46 v198 (n1 - 1) (less.flatMap Ac.C) := by
          rw [hless, List.flatMap_append, show n1 - 1 = 0 + i + (n1 - (i + 1)) by omega]; simpa using hole
        obtain ⟨ae, ce, rfl, hRe, hbe⟩ := own_acs hole hlew.num hlel
        obtain ⟨le, hle⟩ : ∃ le, le = (ae.map (·.block)).toList := ⟨_, rfl⟩
        have hler : ∀ z ∈ le, wd19.heap.size ≤ z ∧ z < w198.heap.size := fun z hz => hole.lt z (by rw [hbe]; rw [hle] at hz; simpa using hz)
        have hlep : ∀ p, ae = some p → p.block ∈ le := fun p hp => by rw [hle, hp]; simp
        have hzX19 := hX.size
        refine hK33 _ _ ?_
        rcases (show (Sp.aroot 0 less = Sp.aroot 0 l ∧ 1 < n1) ∨ (Sp.aroot 0 less = Sp.aroot 0 l ∧ n1 = 1) ∨ (Sp.aroot 0 less ≠ Sp.aroot 0 l ∧ 1 < n1) ∨ (Sp.aroot 0 less ≠ Sp.aroot 0 l ∧ n1 = 1) by
          by_cases h : Sp.aroot 0 less = Sp.aroot 0 l <;> simp [h] <;> omega) with ⟨heq, hgt⟩ | ⟨heq, hgt⟩ | ⟨heq, hgt⟩ | ⟨heq, hgt⟩
        · refine c_seqdraw [] ((foot (some (bt, vt102, [] ++ Sp.anotes 0 l ++ Sp.anotes 0 more)))) (by kernel_rfl) ?_
          intro K36 hK36 wd20 Xd20 hS20
          replace hG := hG.keep Xd20 (by simp)
          replace hX : Chg w _ [] := (hX.trans Xd20).mono (by intro k hk hlt; simp at hk ⊢ <;> first | omega | grind)
          replace hT := hT.keep Xd20 (by simp)
          replace hRl := hRl.keep0 Xd20
          replace hRe := hRe.keep0 Xd20
          replace hb9 := hb9.keep Xd20 (by simp)
          have zd20 := Xd20.size
          have hb9s := hb9
          have hRls := hRl
          have hb9n : b9 ∉ (foot (some (bt, vt102, [] ++ Sp.anotes 0 l ++ Sp.anotes 0 more))) := fun hm => by have h := (hT.ft _ hm).2.2; simp at h
          have hRln : ∀ p, a1 = some p → p.block ∉ (foot (some (bt, vt102, [] ++ Sp.anotes 0 l ++ Sp.anotes 0 more))) := fun p hp hm => by have h := hT.ft _ hm; have := hal p hp; simp [Rg] at h; omega
          refine d_take 0 68 rfl (by kernel_rfl) rfl hS20 (fun wS hS => runs_move rfl) ?_
          refine d_take 1 69 rfl (by kernel_rfl) rfl hS20 (fun wS hS => runs_move rfl) ?_
          refine d_take 3 71 rfl (by kernel_rfl) rfl hS20 (fun wS hS => runs_loadAgg ty26 rfl ((hb9s.keep hS hb9n).at) (by rw [natsC_length, (aroot_ok _ _).1])) ?_
          refine d_only 2 rfl (by kernel_rfl) ?_
          refine s_callf (xs := [.tmp 68, .const (.int .i64 0), .tmp 69]) rfl rfl Tryd.func15 rfl (by kernel_rfl) rfl (hT.aroot le (fun z hz => by have := hler z hz; omega) hG (by omega) hlew hRe (fun p hp => .inr (by simp [hlep p hp])) (by omega) (by have := anotes_few hlw (by omega); have := anotes_few hmw (by omega); simp; omega)) ?_
          rintro _ w202 ⟨rfl, vt202, hC202⟩
          replace hG := hG.keep hC202.chg (fun k hk => by have h := hC202.ft k hk; simp [Rg] at h <;> omega)
          replace hX : Chg w _ [] := (hX.trans hC202.chg).mono (by intro k hk hlt; have h := hC202.ft k (by simpa using hk); simp [Rg] at h <;> omega)
          replace hRl := hRl.keep hC202.chg (fun p hp hm => by have h := hC202.ft _ hm; have := hal p hp; simp [Rg] at h <;> omega)
          replace hb9 := hb9.keep hC202.chg (fun hm => by have h := (hC202.ft _ hm).2.2; simp at h)
          have zs20_2 := hC202.chg.size
          have hT := hC202.tl
          replace hS20 : Chg wd20 _ (foot (some (bt, vt102, [] ++ Sp.anotes 0 l ++ Sp.anotes 0 more))) := (hS20.trans hC202.chg).mono (by intro k hk _; simpa using hk)
          refine s_nil ⟨.inr hS20, ?_⟩
          refine d_take 4 72 rfl (by kernel_rfl) rfl hS20 (fun wS hS => runs_df (runs_hv_ne rfl rfl (aroot_ok _ _) (aroot_ok _ _)) (fun h => h heq)) ?_
          refine d_take 5 73 rfl (by kernel_rfl) rfl hS20 (fun wS hS => runs_move rfl) ?_
          refine d_take 6 74 rfl (by kernel_rfl) rfl hS20 (fun wS hS => runs_move rfl) ?_
          refine d_only 7 rfl (by kernel_rfl) ?_
          refine s_callf (xs := [.tmp 74]) rfl rfl Tryd.func20 rfl (by kernel_rfl) rfl (hT.clash hG (by omega) (by
              intro z hz
              simp only [List.mem_append, List.not_mem_nil, false_or] at hz
              have h1 := anotes_short 129 0 l (by omega) hlw z
              have h2 := anotes_short 129 0 more (by omega) hmw z
              have h3 := anotes_short 129 0 less (by omega) hlew z
              grind)) ?_
          rintro _ wcl ⟨bc, rfl, hbc, Xcl⟩
          replace hG := hG.keep Xcl (by simp)
          replace hX : Chg w _ [] := (hX.trans Xcl).mono (by intro k hk hlt; simp at hk ⊢ <;> first | omega | grind)
          replace hRl := hRl.keep0 Xcl
          replace hb9 := hb9.keep Xcl (by simp)
          replace hT := hT.keep Xcl (by simp)
          have zs20_7 := Xcl.size
          obtain rfl := hbc.2 (coll0 hlew hlw hleok hlok heq hlene (fun z hz => by simp only [List.mem_append]; rcases hz with hz | hz <;> simp [hz]))
          replace hS20 : Chg wd20 _ (foot (some (bt, vt102, [] ++ Sp.anotes 0 l ++ Sp.anotes 0 more))) := (hS20.trans Xcl).mono (by intro k hk _; simpa using hk)
          refine s_nil ⟨.inr hS20, ?_⟩
          refine d_take 8 76 rfl (by kernel_rfl) rfl hS20 (fun wS hS => runs_pickf rfl rfl) ?_
          refine d_take 9 77 rfl (by kernel_rfl) rfl hS20 (fun wS hS => runs_move rfl) ?_
          refine d_take 10 78 rfl (by kernel_rfl) rfl hS20 (fun wS hS => runs_move rfl) ?_
          refine d_take 11 79 rfl (by kernel_rfl) rfl hS20 (fun wS hS => runs_len_slice Tryd.underlying38 rfl) ?_
          refine d_take 12 80 rfl (by kernel_rfl) rfl hS20 (fun wS hS => runs_dt (runs_gt rfl rfl) (by omega)) ?_
          refine d_take 13 81 rfl (by kernel_rfl) rfl hS20 (fun wS hS => runs_move rfl) ?_
          refine d_takeskip 14 82 rfl (by kernel_rfl) rfl hS20 ?_
          refine d_takeskip 15 83 rfl (by kernel_rfl) rfl hS20 ?_
          refine d_takeskip 16 84 rfl (by kernel_rfl) rfl hS20 ?_
          refine d_takeskip 17 85 rfl (by kernel_rfl) rfl hS20 ?_
          refine d_takeskip 18 86 rfl (by kernel_rfl) rfl hS20 ?_
          refine d_takeskip 19 87 rfl (by kernel_rfl) rfl hS20 ?_
          refine d_take 20 88 rfl (by kernel_rfl) rfl hS20 (fun wS hS => runs_pickt rfl rfl) ?_
          refine d_take 21 89 rfl (by kernel_rfl) rfl hS20 (fun wS hS => runs_pickt rfl rfl) ?_
          refine d_take 22 6 rfl (by kernel_rfl) rfl hS20 (fun wS hS => runs_assign rfl) ?_
          refine d_done (by kernel_rfl) ?_
          refine hK36 _ _ ?_
          refine c_ret ?_
          refine hret _ _ ?_
          exact ends1 (reads_tmp rfl) ⟨rfl, hX⟩
        · refine c_seqdraw [] ((foot (some (bt, vt102, [] ++ Sp.anotes 0 l ++ Sp.anotes 0 more)))) (by kernel_rfl) ?_
          intro K36 hK36 wd20 Xd20 hS20
          replace hG := hG.keep Xd20 (by simp)
          replace hX : Chg w _ [] := (hX.trans Xd20).mono (by intro k hk hlt; simp at hk ⊢ <;> first | omega | grind)
          replace hT := hT.keep Xd20 (by simp)
          replace hRl := hRl.keep0 Xd20
          replace hRe := hRe.keep0 Xd20
          replace hb9 := hb9.keep Xd20 (by simp)
          have zd20 := Xd20.size
          have hb9s := hb9
          have hRls := hRl
          have hb9n : b9 ∉ (foot (some (bt, vt102, [] ++ Sp.anotes 0 l ++ Sp.anotes 0 more))) := fun hm => by have h := (hT.ft _ hm).2.2; simp at h
          have hRln : ∀ p, a1 = some p → p.block ∉ (foot (some (bt, vt102, [] ++ Sp.anotes 0 l ++ Sp.anotes 0 more))) := fun p hp hm => by have h := hT.ft _ hm; have := hal p hp; simp [Rg] at h; omega
          obtain ⟨q, hlq⟩ : ∃ q, l = [q] := by
            match l, hn1 with
            | [q], _ => exact ⟨q, rfl⟩
            | [], e => simp at e; omega
            | _ :: _ :: _, e => simp at e; omega
          have hqn := hlw.num q (by rw [hlq]; simp)
          obtain ⟨bq, oq, rfl⟩ := hRl.rd.some_ (by omega)
          refine d_take 0 68 rfl (by kernel_rfl) rfl hS20 (fun wS hS => runs_move rfl) ?_
          refine d_take 1 69 rfl (by kernel_rfl) rfl hS20 (fun wS hS => runs_move rfl) ?_
          refine d_take 3 71 rfl (by kernel_rfl) rfl hS20 (fun wS hS => runs_loadAgg ty26 rfl ((hb9s.keep hS hb9n).at) (by rw [natsC_length, (aroot_ok _ _).1])) ?_
          refine d_only 2 rfl (by kernel_rfl) ?_
          refine s_callf (xs := [.tmp 68, .const (.int .i64 0), .tmp 69]) rfl rfl Tryd.func15 rfl (by kernel_rfl) rfl (hT.aroot le (fun z hz => by have := hler z hz; omega) hG (by omega) hlew hRe (fun p hp => .inr (by simp [hlep p hp])) (by omega) (by have := anotes_few hlw (by omega); have := anotes_few hmw (by omega); simp; omega)) ?_
          rintro _ w202 ⟨rfl, vt202, hC202⟩
          replace hG := hG.keep hC202.chg (fun k hk => by have h := hC202.ft k hk; simp [Rg] at h <;> omega)
          replace hX : Chg w _ [] := (hX.trans hC202.chg).mono (by intro k hk hlt; have h := hC202.ft k (by simpa using hk); simp [Rg] at h <;> omega)
          replace hRl := hRl.keep hC202.chg (fun p hp hm => by have h := hC202.ft _ hm; have := hal p hp; simp [Rg] at h <;> omega)
          replace hb9 := hb9.keep hC202.chg (fun hm => by have h := (hC202.ft _ hm).2.2; simp at h)
          have zs20_2 := hC202.chg.size
          have hT := hC202.tl
          replace hS20 : Chg wd20 _ (foot (some (bt, vt102, [] ++ Sp.anotes 0 l ++ Sp.anotes 0 more))) := (hS20.trans hC202.chg).mono (by intro k hk _; simpa using hk)
          refine s_nil ⟨.inr hS20, ?_⟩
          refine d_take 4 72 rfl (by kernel_rfl) rfl hS20 (fun wS hS => runs_df (runs_hv_ne rfl rfl (aroot_ok _ _) (aroot_ok _ _)) (fun h => h heq)) ?_
          refine d_take 5 73 rfl (by kernel_rfl) rfl hS20 (fun wS hS => runs_move rfl) ?_
          refine d_take 6 74 rfl (by kernel_rfl) rfl hS20 (fun wS hS => runs_move rfl) ?_
          refine d_only 7 rfl (by kernel_rfl) ?_
          refine s_callf (xs := [.tmp 74]) rfl rfl Tryd.func20 rfl (by kernel_rfl) rfl (hT.clash hG (by omega) (by
              intro z hz
              simp only [List.mem_append, List.not_mem_nil, false_or] at hz
              have h1 := anotes_short 129 0 l (by omega) hlw z
              have h2 := anotes_short 129 0 more (by omega) hmw z
              have h3 := anotes_short 129 0 less (by omega) hlew z
              grind)) ?_
          rintro _ wcl ⟨bc, rfl, hbc, Xcl⟩
          replace hG := hG.keep Xcl (by simp)
          replace hX : Chg w _ [] := (hX.trans Xcl).mono (by intro k hk hlt; simp at hk ⊢ <;> first | omega | grind)
          replace hRl := hRl.keep0 Xcl
          replace hb9 := hb9.keep Xcl (by simp)
          replace hT := hT.keep Xcl (by simp)
          have zs20_7 := Xcl.size
          obtain rfl := hbc.2 (coll0 hlew hlw hleok hlok heq hlene (fun z hz => by simp only [List.mem_append]; rcases hz with hz | hz <;> simp [hz]))
          replace hS20 : Chg wd20 _ (foot (some (bt, vt102, [] ++ Sp.anotes 0 l ++ Sp.anotes 0 more))) := (hS20.trans Xcl).mono (by intro k hk _; simpa using hk)
          refine s_nil ⟨.inr hS20, ?_⟩
          refine d_take 8 76 rfl (by kernel_rfl) rfl hS20 (fun wS hS => runs_pickf rfl rfl) ?_
          refine d_take 9 77 rfl (by kernel_rfl) rfl hS20 (fun wS hS => runs_move rfl) ?_
          refine d_take 10 78 rfl (by kernel_rfl) rfl hS20 (fun wS hS => runs_move rfl) ?_
          refine d_take 11 79 rfl (by kernel_rfl) rfl hS20 (fun wS hS => runs_len_slice Tryd.underlying38 rfl) ?_
          refine d_take 12 80 rfl (by kernel_rfl) rfl hS20 (fun wS hS => runs_df (runs_gt rfl rfl) (by omega)) ?_
          refine d_take 13 81 rfl (by kernel_rfl) rfl hS20 (fun wS hS => runs_move rfl) ?_
          refine d_take 14 82 rfl (by kernel_rfl) rfl hS20 (fun wS hS => runs_loadAgg ty26 rfl ((hb9s.keep hS hb9n).at) (by rw [natsC_length, (aroot_ok _ _).1])) ?_
          refine d_take 15 83 rfl (by kernel_rfl) rfl hS20 (fun wS hS => runs_move rfl) ?_
          refine d_take 16 84 rfl (by kernel_rfl) rfl hS20 (fun wS hS => runs_index_slice (0) Tryd.underlying38 ty28 rfl rfl (by omega) (by omega)) ?_
          refine d_take 17 85 rfl (by kernel_rfl) rfl hS20 (fun wS hS => runs_loadAgg ty28 rfl ((hRls.keep hS hRln).elem (i := 0) (show l[0]? = some q by rw [hlq]; rfl)) (Ac.len hqn)) ?_
          refine d_only 18 rfl (by kernel_rfl) ?_
          refine s_callf (xs := [.const (.pointer none), .tmp 85]) rfl rfl Tryd.func23 rfl (by kernel_rfl) rfl (aleaf0 hG (by omega) hqn) ?_
          rintro _ w2018 ⟨rfl, X20_18⟩
          replace hG := hG.keep X20_18 (by simp)
          replace hX : Chg w _ [] := (hX.trans X20_18).mono (by intro k hk hlt; simp at hk ⊢ <;> first | omega | grind)
          replace hRl := hRl.keep0 X20_18
          replace hb9 := hb9.keep X20_18 (by simp)
          replace hT := hT.keep X20_18 (by simp)
          have zs20_18 := X20_18.size
          replace hS20 : Chg wd20 _ (foot (some (bt, vt102, [] ++ Sp.anotes 0 l ++ Sp.anotes 0 more))) := (hS20.trans X20_18).mono (by intro k hk _; simpa using hk)
          refine s_nil ⟨.inr hS20, ?_⟩
          refine d_take 19 87 rfl (by kernel_rfl) rfl hS20 (fun wS hS => runs_dt (runs_hv_eq rfl rfl (aroot_ok _ _) (aleaf_ok _)) (by rw [hlq]; exact aroot_one (k := 0) (by omega) q)) ?_
          refine d_take 20 88 rfl (by kernel_rfl) rfl hS20 (fun wS hS => runs_pickf rfl rfl) ?_
          refine d_take 21 89 rfl (by kernel_rfl) rfl hS20 (fun wS hS => runs_pickt rfl rfl) ?_
          refine d_take 22 6 rfl (by kernel_rfl) rfl hS20 (fun wS hS => runs_assign rfl) ?_
          refine d_done (by kernel_rfl) ?_
          refine hK36 _ _ ?_
          refine c_ret ?_
          refine hret _ _ ?_
          exact ends1 (reads_tmp rfl) ⟨rfl, hX⟩
        · refine c_seqdraw [] ((foot (some (bt, vt102, [] ++ Sp.anotes 0 l ++ Sp.anotes 0 more)))) (by kernel_rfl) ?_
          intro K36 hK36 wd20 Xd20 hS20
          replace hG := hG.keep Xd20 (by simp)
          replace hX : Chg w _ [] := (hX.trans Xd20).mono (by intro k hk hlt; simp at hk ⊢ <;> first | omega | grind)
          replace hT := hT.keep Xd20 (by simp)
          replace hRl := hRl.keep0 Xd20
          replace hRe := hRe.keep0 Xd20
          replace hb9 := hb9.keep Xd20 (by simp)
          have zd20 := Xd20.size
          have hb9s := hb9
          have hRls := hRl
          have hb9n : b9 ∉ (foot (some (bt, vt102, [] ++ Sp.anotes 0 l ++ Sp.anotes 0 more))) := fun hm => by have h := (hT.ft _ hm).2.2; simp at h
          have hRln : ∀ p, a1 = some p → p.block ∉ (foot (some (bt, vt102, [] ++ Sp.anotes 0 l ++ Sp.anotes 0 more))) := fun p hp hm => by have h := hT.ft _ hm; have := hal p hp; simp [Rg] at h; omega
          refine d_take 0 68 rfl (by kernel_rfl) rfl hS20 (fun wS hS => runs_move rfl) ?_
          refine d_take 1 69 rfl (by kernel_rfl) rfl hS20 (fun wS hS => runs_move rfl) ?_
          refine d_take 3 71 rfl (by kernel_rfl) rfl hS20 (fun wS hS => runs_loadAgg ty26 rfl ((hb9s.keep hS hb9n).at) (by rw [natsC_length, (aroot_ok _ _).1])) ?_
          refine d_only 2 rfl (by kernel_rfl) ?_
          refine s_callf (xs := [.tmp 68, .const (.int .i64 0), .tmp 69]) rfl rfl Tryd.func15 rfl (by kernel_rfl) rfl (hT.aroot le (fun z hz => by have := hler z hz; omega) hG (by omega) hlew hRe (fun p hp => .inr (by simp [hlep p hp])) (by omega) (by have := anotes_few hlw (by omega); have := anotes_few hmw (by omega); simp; omega)) ?_
          rintro _ w202 ⟨rfl, vt202, hC202⟩
          replace hG := hG.keep hC202.chg (fun k hk => by have h := hC202.ft k hk; simp [Rg] at h <;> omega)
          replace hX : Chg w _ [] := (hX.trans hC202.chg).mono (by intro k hk hlt; have h := hC202.ft k (by simpa using hk); simp [Rg] at h <;> omega)
          replace hRl := hRl.keep hC202.chg (fun p hp hm => by have h := hC202.ft _ hm; have := hal p hp; simp [Rg] at h <;> omega)
          replace hb9 := hb9.keep hC202.chg (fun hm => by have h := (hC202.ft _ hm).2.2; simp at h)
          have zs20_2 := hC202.chg.size
          have hT := hC202.tl
          replace hS20 : Chg wd20 _ (foot (some (bt, vt102, [] ++ Sp.anotes 0 l ++ Sp.anotes 0 more))) := (hS20.trans hC202.chg).mono (by intro k hk _; simpa using hk)
          refine s_nil ⟨.inr hS20, ?_⟩
          refine d_take 4 72 rfl (by kernel_rfl) rfl hS20 (fun wS hS => runs_dt (runs_hv_ne rfl rfl (aroot_ok _ _) (aroot_ok _ _)) heq) ?_
          refine d_take 5 73 rfl (by kernel_rfl) rfl hS20 (fun wS hS => runs_move rfl) ?_
          refine d_takeskip 6 74 rfl (by kernel_rfl) rfl hS20 ?_
          refine d_takeskip 7 75 rfl (by kernel_rfl) rfl hS20 ?_
          refine d_take 8 76 rfl (by kernel_rfl) rfl hS20 (fun wS hS => runs_pickt rfl rfl) ?_
          refine d_take 9 77 rfl (by kernel_rfl) rfl hS20 (fun wS hS => runs_move rfl) ?_
          refine d_take 10 78 rfl (by kernel_rfl) rfl hS20 (fun wS hS => runs_move rfl) ?_
          refine d_take 11 79 rfl (by kernel_rfl) rfl hS20 (fun wS hS => runs_len_slice Tryd.underlying38 rfl) ?_
          refine d_take 12 80 rfl (by kernel_rfl) rfl hS20 (fun wS hS => runs_dt (runs_gt rfl rfl) (by omega)) ?_
          refine d_take 13 81 rfl (by kernel_rfl) rfl hS20 (fun wS hS => runs_move rfl) ?_
          refine d_takeskip 14 82 rfl (by kernel_rfl) rfl hS20 ?_
          refine d_takeskip 15 83 rfl (by kernel_rfl) rfl hS20 ?_
          refine d_takeskip 16 84 rfl (by kernel_rfl) rfl hS20 ?_
          refine d_takeskip 17 85 rfl (by kernel_rfl) rfl hS20 ?_
          refine d_takeskip 18 86 rfl (by kernel_rfl) rfl hS20 ?_
          refine d_takeskip 19 87 rfl (by kernel_rfl) rfl hS20 ?_
          refine d_take 20 88 rfl (by kernel_rfl) rfl hS20 (fun wS hS => runs_pickt rfl rfl) ?_
          refine d_take 21 89 rfl (by kernel_rfl) rfl hS20 (fun wS hS => runs_pickt rfl rfl) ?_
          refine d_take 22 6 rfl (by kernel_rfl) rfl hS20 (fun wS hS => runs_assign rfl) ?_
          refine d_done (by kernel_rfl) ?_
          refine hK36 _ _ ?_
          refine c_ret ?_
          refine hret _ _ ?_
          exact ends1 (reads_tmp rfl) ⟨rfl, hX⟩
        · refine c_seqdraw [] ((foot (some (bt, vt102, [] ++ Sp.anotes 0 l ++ Sp.anotes 0 more)))) (by kernel_rfl) ?_
          intro K36 hK36 wd20 Xd20 hS20
          replace hG := hG.keep Xd20 (by simp)
          replace hX : Chg w _ [] := (hX.trans Xd20).mono (by intro k hk hlt; simp at hk ⊢ <;> first | omega | grind)
          replace hT := hT.keep Xd20 (by simp)
          replace hRl := hRl.keep0 Xd20
          replace hRe := hRe.keep0 Xd20
          replace hb9 := hb9.keep Xd20 (by simp)
          have zd20 := Xd20.size
          have hb9s := hb9
          have hRls := hRl
          have hb9n : b9 ∉ (foot (some (bt, vt102, [] ++ Sp.anotes 0 l ++ Sp.anotes 0 more))) := fun hm => by have h := (hT.ft _ hm).2.2; simp at h
          have hRln : ∀ p, a1 = some p → p.block ∉ (foot (some (bt, vt102, [] ++ Sp.anotes 0 l ++ Sp.anotes 0 more))) := fun p hp hm => by have h := hT.ft _ hm; have := hal p hp; simp [Rg] at h; omega
          obtain ⟨q, hlq⟩ : ∃ q, l = [q] := by
            match l, hn1 with
            | [q], _ => exact ⟨q, rfl⟩
            | [], e => simp at e; omega
            | _ :: _ :: _, e => simp at e; omega
          have hqn := hlw.num q (by rw [hlq]; simp)
          obtain ⟨bq, oq, rfl⟩ := hRl.rd.some_ (by omega)
          refine d_take 0 68 rfl (by kernel_rfl) rfl hS20 (fun wS hS => runs_move rfl) ?_
          refine d_take 1 69 rfl (by kernel_rfl) rfl hS20 (fun wS hS => runs_move rfl) ?_
          refine d_take 3 71 rfl (by kernel_rfl) rfl hS20 (fun wS hS => runs_loadAgg ty26 rfl ((hb9s.keep hS hb9n).at) (by rw [natsC_length, (aroot_ok _ _).1])) ?_
          refine d_only 2 rfl (by kernel_rfl) ?_
          refine s_callf (xs := [.tmp 68, .const (.int .i64 0), .tmp 69]) rfl rfl Tryd.func15 rfl (by kernel_rfl) rfl (hT.aroot le (fun z hz => by have := hler z hz; omega) hG (by omega) hlew hRe (fun p hp => .inr (by simp [hlep p hp])) (by omega) (by have := anotes_few hlw (by omega); have := anotes_few hmw (by omega); simp; omega)) ?_
          rintro _ w202 ⟨rfl, vt202, hC202⟩
          replace hG := hG.keep hC202.chg (fun k hk => by have h := hC202.ft k hk; simp [Rg] at h <;> omega)
          replace hX : Chg w _ [] := (hX.trans hC202.chg).mono (by intro k hk hlt; have h := hC202.ft k (by simpa using hk); simp [Rg] at h <;> omega)
          replace hRl := hRl.keep hC202.chg (fun p hp hm => by have h := hC202.ft _ hm; have := hal p hp; simp [Rg] at h <;> omega)
          replace hb9 := hb9.keep hC202.chg (fun hm => by have h := (hC202.ft _ hm).2.2; simp at h)
          have zs20_2 := hC202.chg.size
          have hT := hC202.tl
          replace hS20 : Chg wd20 _ (foot (some (bt, vt102, [] ++ Sp.anotes 0 l ++ Sp.anotes 0 more))) := (hS20.trans hC202.chg).mono (by intro k hk _; simpa using hk)
          refine s_nil ⟨.inr hS20, ?_⟩
          refine d_take 4 72 rfl (by kernel_rfl) rfl hS20 (fun wS hS => runs_dt (runs_hv_ne rfl rfl (aroot_ok _ _) (aroot_ok _ _)) heq) ?_
          refine d_take 5 73 rfl (by kernel_rfl) rfl hS20 (fun wS hS => runs_move rfl) ?_
          refine d_takeskip 6 74 rfl (by kernel_rfl) rfl hS20 ?_
          refine d_takeskip 7 75 rfl (by kernel_rfl) rfl hS20 ?_
          refine d_take 8 76 rfl (by kernel_rfl) rfl hS20 (fun wS hS => runs_pickt rfl rfl) ?_
          refine d_take 9 77 rfl (by kernel_rfl) rfl hS20 (fun wS hS => runs_move rfl) ?_
          refine d_take 10 78 rfl (by kernel_rfl) rfl hS20 (fun wS hS => runs_move rfl) ?_
          refine d_take 11 79 rfl (by kernel_rfl) rfl hS20 (fun wS hS => runs_len_slice Tryd.underlying38 rfl) ?_
          refine d_take 12 80 rfl (by kernel_rfl) rfl hS20 (fun wS hS => runs_df (runs_gt rfl rfl) (by omega)) ?_
          refine d_take 13 81 rfl (by kernel_rfl) rfl hS20 (fun wS hS => runs_move rfl) ?_
          refine d_take 14 82 rfl (by kernel_rfl) rfl hS20 (fun wS hS => runs_loadAgg ty26 rfl ((hb9s.keep hS hb9n).at) (by rw [natsC_length, (aroot_ok _ _).1])) ?_
          refine d_take 15 83 rfl (by kernel_rfl) rfl hS20 (fun wS hS => runs_move rfl) ?_
          refine d_take 16 84 rfl (by kernel_rfl) rfl hS20 (fun wS hS => runs_index_slice (0) Tryd.underlying38 ty28 rfl rfl (by omega) (by omega)) ?_
          refine d_take 17 85 rfl (by kernel_rfl) rfl hS20 (fun wS hS => runs_loadAgg ty28 rfl ((hRls.keep hS hRln).elem (i := 0) (show l[0]? = some q by rw [hlq]; rfl)) (Ac.len hqn)) ?_
          refine d_only 18 rfl (by kernel_rfl) ?_
          refine s_callf (xs := [.const (.pointer none), .tmp 85]) rfl rfl Tryd.func23 rfl (by kernel_rfl) rfl (aleaf0 hG (by omega) hqn) ?_
          rintro _ w2018 ⟨rfl, X20_18⟩
          replace hG := hG.keep X20_18 (by simp)
          replace hX : Chg w _ [] := (hX.trans X20_18).mono (by intro k hk hlt; simp at hk ⊢ <;> first | omega | grind)
          replace hRl := hRl.keep0 X20_18
          replace hb9 := hb9.keep X20_18 (by simp)
          replace hT := hT.keep X20_18 (by simp)
          have zs20_18 := X20_18.size
          replace hS20 : Chg wd20 _ (foot (some (bt, vt102, [] ++ Sp.anotes 0 l ++ Sp.anotes 0 more))) := (hS20.trans X20_18).mono (by intro k hk _; simpa using hk)
          refine s_nil ⟨.inr hS20, ?_⟩
          refine d_take 19 87 rfl (by kernel_rfl) rfl hS20 (fun wS hS => runs_dt (runs_hv_eq rfl rfl (aroot_ok _ _) (aleaf_ok _)) (by rw [hlq]; exact aroot_one (k := 0) (by omega) q)) ?_
          refine d_take 20 88 rfl (by kernel_rfl) rfl hS20 (fun wS hS => runs_pickf rfl rfl) ?_
          refine d_take 21 89 rfl (by kernel_rfl) rfl hS20 (fun wS hS => runs_pickt rfl rfl) ?_
          refine d_take 22 6 rfl (by kernel_rfl) rfl hS20 (fun wS hS => runs_assign rfl) ?_
          refine d_done (by kernel_rfl) ?_
          refine hK36 _ _ ?_
          refine c_ret ?_
          refine hret _ _ ?_
          exact ends1 (reads_tmp rfl) ⟨rfl, hX⟩
    refine c_seqreg (fun K45 hK45 => ?_)
    refine s_val rfl rfl (runs_move rfl) ?_
    refine s_val rfl rfl (runs_move rfl) ?_
    refine s_callf (xs := [.tmp 37, .tmp 38]) rfl rfl Tryd.func22 rfl (by kernel_rfl) rfl (same_calls more l _ _ _ _ _ _ _ hRm hRl (by omega) (by omega)) ?_
    rintro _ w112 ⟨rfl, X11_2⟩
    replace hG := hG.keep X11_2 (by simp)
    replace hX : Chg w _ [] := (hX.trans X11_2).mono (by intro k hk hlt; simp at hk ⊢ <;> first | omega | grind)
    replace hRl := hRl.keep0 X11_2
    replace hb9 := hb9.keep X11_2 (by simp)
    replace hRm := hRm.keep0 X11_2
    replace hT := hT.keep X11_2 (by simp)
    replace hb11 := hb11.keep X11_2 (by simp)
    have zs11_2 := X11_2.size
    refine s_nil ?_
    have hzX11 := hX.size
    refine hK45 _ _ ?_
    refine c_dec rfl (fun hsm => ?_) (fun hsm => ?_)
    · refine c_seqreg (fun K47 hK47 => ?_)
      refine s_val rfl rfl (runs_loadAgg ty26 rfl hb11.at (by rw [natsC_length, (aroot_ok _ _).1])) ?_
      refine s_val rfl rfl (runs_loadAgg ty26 rfl hb9.at (by rw [natsC_length, (aroot_ok _ _).1])) ?_
      refine s_val rfl rfl (runs_df (runs_hv_ne rfl rfl (aroot_ok _ _) (aroot_ok _ _)) (fun h => h (by rw [hsm]))) ?_
      refine s_nil ?_
      refine hK47 _ _ ?_
      refine c_false rfl ?_
      refine c_skip ?_
      exact hJ27 _ X11_2 _ ⟨rfl, rfl, rfl, rfl, trivial⟩
    · refine c_seqreg (fun K48 hK48 => ?_)
      refine s_val rfl rfl (runs_loadAgg ty26 rfl hb11.at (by rw [natsC_length, (aroot_ok _ _).1])) ?_
      refine s_val rfl rfl (runs_loadAgg ty26 rfl hb9.at (by rw [natsC_length, (aroot_ok _ _).1])) ?_
      refine s_val rfl rfl (runs_hv_eq rfl rfl (aroot_ok _ _) (aroot_ok _ _)) ?_
      refine s_nil ?_
      refine hK48 _ _ ?_
      refine c_dec rfl (fun hsr => ?_) (fun hsr => ?_)
      · refine c_seqreg (fun K49 hK49 => ?_)
        refine s_val rfl rfl (runs_move rfl) ?_
        refine s_callf (xs := [.tmp 46]) rfl rfl Tryd.func20 rfl (by kernel_rfl) rfl (hT.clash hG (by omega) (by
            intro z hz
            simp only [List.mem_append, List.not_mem_nil, false_or] at hz
            have h1 := anotes_short 129 0 l (by omega) hlw z
            have h2 := anotes_short 129 0 more (by omega) hmw z
            grind)) ?_
        rintro _ wcl ⟨bc, rfl, hbc, Xcl⟩
        replace hG := hG.keep Xcl (by simp)
        replace hX : Chg w _ [] := (hX.trans Xcl).mono (by intro k hk hlt; simp at hk ⊢ <;> first | omega | grind)
        replace hRl := hRl.keep0 Xcl
        replace hb9 := hb9.keep Xcl (by simp)
        replace hRm := hRm.keep0 Xcl
        replace hT := hT.keep Xcl (by simp)
        replace hb11 := hb11.keep Xcl (by simp)
        have zs15_1 := Xcl.size
        obtain rfl := hbc.2 (coll0 hmw hlw hmok hlok hsr hsm (fun z hz => by simp only [List.mem_append]; rcases hz with hz | hz <;> simp [hz]))
        refine s_val rfl rfl (runs_assign rfl) ?_
        refine s_nil ?_
        refine hK49 _ _ ?_
        refine c_ret ?_
        refine hret _ _ ?_
        exact ends1 (reads_tmp rfl) ⟨rfl, hX⟩
      · refine c_skip ?_
        exact hJ27 _ X11_2 _ ⟨rfl, rfl, rfl, rfl, trivial⟩
  · refine c_seqreg (fun K9 hK9 => ?_)
    refine s_val rfl rfl (runs_df (runs_move rfl) h20) ?_
    refine s_val rfl rfl (runs_not rfl) ?_
    refine s_nil ?_
    refine hK9 _ _ ?_
    refine c_true rfl ?_
    refine c_seqreg (fun K51 hK51 => ?_)
    refine s_val rfl rfl (runs_assign rfl) ?_
    refine s_nil ?_
    refine hK51 _ _ ?_
    refine c_ret ?_
    refine hret _ _ ?_
    exact ends1 (reads_tmp rfl) ⟨rfl, hX⟩
end Go.Proofs.YtmmijecookbajaaDoor
