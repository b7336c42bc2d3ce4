/- Part St14 of the proofs on this seat. Conditions: none beyond those in the theorems. By an AI agent. -/
import Derived.Test.YtmmijecookbajaaDoorStC
namespace Go.Proofs.YtmmijecookbajaaDoor
open Go Go.RowKit

theorem zero_ok : HOk Sp.zero32 := ⟨by simp [Sp.zero32], by intro x hx; simp [Sp.zero32] at hx; omega⟩
theorem zero_cells : natsC .u8 Sp.zero32 = List.replicate 32 (.int .u8 0) := by simp [natsC, Sp.zero32]
theorem pfC_path {th : Bool} {r : Ac} {s : Value} (h : r.Num) : (pfC th r s)[47]? = some s := by
  rw [pfC, List.getElem?_cons_succ, List.getElem?_append_right (by rw [Ac.len h]; exact Nat.le_refl _), Ac.len h]; rfl
theorem pf_acc {th : Bool} {r : Ac} {s : Value} {w : World} {b : Nat} {t : TypeId} (hb : Blk w b (pfC th r s) t) (h : r.Num) : At w b (0 + 1) r.C := by
  have := hb.at.sub 1 46
  rwa [show ((pfC th r s).drop 1).take 46 = r.C by simp [pfC, Ac.len h]] at this
theorem aclimbN_len (id : Nm) (h : List Nat) : ∀ (ps : List (List Nat)) (k : Nat), (Sp.aclimbN id k ps h).length = ps.length := by
  intro ps
  induction ps with
  | nil => intro k; rfl
  | cons p ps ih => intro k; simp [Sp.aclimbN, ih (k + 1)]
theorem TP.refl {w w' : World} {B lo hi : Nat} {l : List Nat} {tv : Value} {ts : TS} (h : TG w B lo hi l tv ts) (x : Chg w w' []) : TP w w' B lo l tv ts ts [] :=
  ⟨(h.keep0 x).set l (fun _ h => .inl h), Notes.nil, x.mono (by simp), fun _ h => .inl h⟩
set_option maxHeartbeats 4000000 in
theorem climbS_calls {B lo hi : Nat} {l : List Nat} {tv : Value} {ts : TS} {id : Nm} {th : Bool} {r : Ac} {a : Option Addr} {n c : Nat} {path : List (List Nat)} {w : World} (hT0 : TG w B lo hi l tv ts) (hG : GH B w) (hB : B ≤ w.heap.size) (hlo : lo ≤ w.heap.size) (hl : ∀ x ∈ l, x < w.heap.size)
    (hid : NOk id) (hr : r.Num) (hH : HsR w a n c path) (ho : ∀ p, a = some p → p.block < lo ∨ p.block ∈ l) (hob : ∀ p, a = some p → p.block < w.heap.size) (hn : n ≤ 1000) (htl : ts.len + n + 2 ≤ 1073741824) :
    CallsR Tryd.prog 12 #[tv, nv id, pfv th r (.slice a n c)] w fun v w' => v = .tuple #[hv (Sp.aclimbR id th r path).1, .bool (Sp.aclimbR id th r path).2] ∧ ∃ ts', TP w w' B lo l tv ts ts' (Sp.aclimbRN id th r path) := by
  have hX : Chg w w (foot ts) := Chg.refl _ _
  have htop := hT0.top
  have hft := hT0.foot
  have hlen := hH.len
  have hpo := hH.ok
  refine f_enter (l := [tv, nv id, pfv th r (.slice a n c)]) Tryd.func12 rfl rfl rfl rfl ?_
  intro Qf hnrm hret
  refine c_seqreg (fun K1 hK1 => ?_)
  refine s_box rfl rfl rfl ?_
  intro b4 w00 e0_0 z0_0 hb4 X0_0
  have s0_0_hX := hX.size
  replace hG := hG.keep X0_0 (by simp)
  replace hX : Chg w _ (foot ts) := (hX.trans X0_0).mono (by intro k hk hlt; simp at hk ⊢ <;> first | omega | grind)
  replace hT0 := hT0.keep X0_0 (by simp)
  replace hH := hH.keep0 X0_0
  replace hb4 : Blk w00 b4 (numC id) 24 := hb4
  refine s_box rfl rfl rfl ?_
  intro b5 w01 e0_1 z0_1 hb5 X0_1
  have s0_1_hX := hX.size
  have s0_1_hb4 := hb4.lt
  replace hG := hG.keep X0_1 (by simp)
  replace hX : Chg w _ (foot ts) := (hX.trans X0_1).mono (by intro k hk hlt; simp at hk ⊢ <;> first | omega | grind)
  replace hT0 := hT0.keep X0_1 (by simp)
  replace hH := hH.keep0 X0_1
  replace hb4 := hb4.keep X0_1 (by simp)
  replace hb5 : Blk w01 b5 (pfC th r (.slice a n c)) 33 := hb5
  refine s_alloc ty26 rfl rfl ?_
  intro b6 w1 e0_2 z0_2 hb6 X0_2
  have s0_2_hX := hX.size
  have s0_2_hb4 := hb4.lt
  have s0_2_hb5 := hb5.lt
  replace hG := hG.keep X0_2 (by simp)
  replace hX : Chg w _ (foot ts) := (hX.trans X0_2).mono (by intro k hk hlt; simp at hk ⊢ <;> first | omega | grind)
  replace hT0 := hT0.keep X0_2 (by simp)
  replace hH := hH.keep0 X0_2
  replace hb4 := hb4.keep X0_2 (by simp)
  replace hb5 := hb5.keep X0_2 (by simp)
  replace hb6 : Blk w1 b6 ((List.replicate 32 (.int .u8 0))) 26 := hb6
  refine s_val rfl rfl (runs_assign rfl) ?_
  refine s_nil ?_
  have hl4 := hb4.lt
  have hl5 := hb5.lt
  have hl6 := hb6.lt
  have hzX := hX.size
  refine hK1 _ _ ?_
  refine c_seq (fun K5 hK5 => ?_)
  refine c_seqreg (fun K6 hK6 => ?_)
  refine s_val rfl rfl (runs_fieldAddr Tryd.underlying33 rfl ty31 (by decide) rfl) ?_
  refine s_val rfl rfl (runs_load1 ty31 rfl (hb5.cell (o := 47) (pfC_path hr))) ?_
  refine s_val rfl rfl (runs_len_slice Tryd.underlying31 rfl) ?_
  refine s_val rfl rfl (runs_gt rfl rfl) ?_
  refine s_nil ?_
  refine hK6 _ _ ?_
  refine c_dec rfl (fun hbig => ?_) (fun hbig => ?_)
  · refine c_seqreg (fun K7 hK7 => ?_)
    refine s_val rfl rfl (runs_build_zero Tryd.underlying26 ty5 ty26 rfl) ?_
    refine s_storeAll ty26 rfl rfl rfl hb6 (by simp) (by simp) (by simp [Value.oneCell']) ?_
    intro w21 z2_1 h2_1 X2_1
    replace hG := hG.keep X2_1 (by simp; omega)
    replace hX : Chg w _ (foot ts) := (hX.trans X2_1).mono (by intro k hk hlt; simp at hk ⊢ <;> first | omega | grind)
    replace hT0 := hT0.keep X2_1 (by simp [Rg] <;> omega)
    replace hH := hH.keep X2_1 (fun p hp => by have := hob p hp; simp; omega)
    replace hb4 := hb4.keep X2_1 (by simp; omega)
    replace hb5 := hb5.keep X2_1 (by simp; omega)
    replace hb6 := h2_1
    refine s_val rfl rfl (runs_assign rfl) ?_
    refine s_nil ?_
    refine hK7 _ _ ?_
    refine c_ret ?_
    refine hret _ _ ?_
    have e1 : Sp.aclimbR id th r path = (Sp.zero32, false) := by rw [Sp.aclimbR, if_pos (by omega)]
    have e2 : Sp.aclimbRN id th r path = [] := by rw [Sp.aclimbRN, if_pos (by omega)]
    refine ends2 (reads_cell ty26 rfl hb6.at (by simp)) (reads_tmp rfl) ⟨by rw [e1]; simp [hv, zero_cells], ts, ?_⟩
    rw [e2]
    exact ⟨hT0.set l (fun _ h => .inl h), Notes.nil, hX, fun _ h => .inl h⟩
  · refine c_skip ?_
    refine hK5 _ _ ?_
    refine c_seqreg (fun K9 hK9 => ?_)
    refine s_val rfl rfl (runs_move rfl) ?_
    refine s_callf (xs := [.tmp 18]) rfl rfl Tryd.func19 rfl (by kernel_rfl) rfl ((hT0.set (b6 :: b5 :: b4 :: l) (by intro x hx; simp only [List.mem_cons] at hx; rcases hx with rfl | rfl | rfl | hx; right; omega; right; omega; right; omega; left; exact hx)).anone hG (by omega) (by omega) (by intro x hx; simp only [List.mem_cons] at hx; rcases hx with rfl | rfl | rfl | hx; omega; omega; omega; have := hl x hx; omega) (by omega)) ?_
    rintro _ w31 ⟨rfl, ts1, hP⟩
    replace hG := hG.keep hP.chg (fun k hk => hT0.arg.foot_lo k hk)
    replace hX : Chg w _ (foot ts) := (hX.trans hP.chg).mono (by intro k hk hlt; simpa using hk)
    replace hH := hH.keep hP.chg (fun p hp hm => by
      rcases ho p hp with h | h
      · have := (hft _ hm).1; omega
      · exact (hft _ hm).2.2 h)
    replace hb4 := hb4.keep hP.chg (fun hm => by have := (hft _ hm).2.1; omega)
    replace hb5 := hb5.keep hP.chg (fun hm => by have := (hft _ hm).2.1; omega)
    replace hb6 := hb6.keep hP.chg (fun hm => by have := (hft _ hm).2.1; omega)
    have zs3_1 := hP.chg.size
    have hT := hP.tg
    have hN := hP.notes
    have hF : ∀ k ∈ foot ts1, k ∈ foot ts ∨ w.heap.size ≤ k := fun k hk => (hP.foot k hk).imp (fun h => h) (fun h => by omega)
    refine s_alloc ty26 rfl rfl ?_
    intro b8 w32 e3_2 z3_2 hb8 X3_2
    have s3_2_hX := hX.size
    have s3_2_hb4 := hb4.lt
    have s3_2_hb5 := hb5.lt
    have s3_2_hb6 := hb6.lt
    replace hG := hG.keep X3_2 (by simp)
    replace hX : Chg w _ (foot ts) := (hX.trans X3_2).mono (by intro k hk hlt; simp at hk ⊢ <;> first | omega | grind)
    replace hH := hH.keep0 X3_2
    replace hb4 := hb4.keep X3_2 (by simp)
    replace hb5 := hb5.keep X3_2 (by simp)
    replace hb6 := hb6.keep X3_2 (by simp)
    replace hT := hT.keep X3_2 (by simp)
    refine s_storeAll ty26 rfl rfl rfl hb8 (by rw [natsC_length, anone_ok.1]) rfl (natsC_one _ _) ?_
    intro w33 z3_3 h3_3 X3_3
    replace hG := hG.keep X3_3 (by simp; omega)
    replace hX : Chg w _ (foot ts) := (hX.trans X3_3).mono (by intro k hk hlt; simp at hk ⊢ <;> first | omega | grind)
    replace hH := hH.keep X3_3 (fun p hp => by have := hob p hp; simp; omega)
    replace hb4 := hb4.keep X3_3 (by simp; omega)
    replace hb5 := hb5.keep X3_3 (by simp; omega)
    replace hb6 := hb6.keep X3_3 (by simp; omega)
    replace hT := hT.keep X3_3 (by simp [Rg] <;> omega)
    replace hb8 := h3_3
    refine s_nil ?_
    have hl8 := hb8.lt
    have hnl1 := hN.len
    rw [List.length_singleton] at hnl1
    replace hT := hT.set (b8 :: b6 :: b5 :: b4 :: l) (by intro x hx; simp only [List.mem_cons] at hx ⊢; rcases hx with rfl | rfl | rfl | rfl | hx; right; omega; left; simp; left; simp; left; simp; left; simp [hx])
    have hft1 := hT.foot
    refine hK9 _ _ ?_
    refine c_seq (fun K13 hK13 => ?_)
    have hJ13 : ∀ (ts1 : TS) (L1 : List (List Nat)) (h0 : List Nat) (W : World), (GH B W ∧ Blk W b4 (numC id) 24 ∧ Blk W b5 (pfC th r (.slice a n c)) 33 ∧ Blk W b6 (List.replicate 32 (.int .u8 0)) 26 ∧ HsR W a n c path ∧ Chg w W (foot ts) ∧ Blk W b8 (natsC .u8 h0) 26 ∧ HOk h0 ∧ (∃ hi', TG W B lo hi' (b8 :: b6 :: b5 :: b4 :: l) tv ts1) ∧ Notes L1 ts ts1 ∧ (∀ k ∈ foot ts1, k ∈ foot ts ∨ w.heap.size ≤ k) ∧ w1.heap.size ≤ W.heap.size ∧ L1.length ≤ 2 ∧ Sp.aclimbR id th r path = (Sp.aclimb id 0 path h0, true) ∧ Sp.aclimbRN id th r path = L1 ++ Sp.aclimbN id 0 path h0 ∧ b8 < W.heap.size) → ∀ ρ : Env, SubL ([(0, tv), (4, .pointer (some ⟨b4, 0, none⟩)), (5, .pointer (some ⟨b5, 0, none⟩)), (6, .pointer (some ⟨b6, 0, none⟩)), (8, .pointer (some ⟨b8, 0, none⟩))]) ρ → K13 ρ W := by
      intro ts1 L1 h0 W hI ρ hρ
      refine hK13 _ _ (c_sub _ hρ ?_)
      clear hρ
      obtain ⟨hG, hb4, hb5, hb6, hH, hX, hb8, hh0, ⟨hi1, hT⟩, hN, hF, hz1, hL1, hcR, hcN, hz8⟩ := hI
      have hft1 := hT.foot
      have hnl1 := hN.len
      have htop1 := hT.top
      refine c_seq (fun K14 hK14 => ?_)
      refine c_seqreg (fun K15 hK15 => ?_)
      refine s_val rfl rfl (runs_fieldAddr Tryd.underlying33 rfl ty31 (by decide) rfl) ?_
      refine s_val rfl rfl (runs_load1 ty31 rfl (hb5.cell (o := 47) (pfC_path hr))) ?_
      refine s_val rfl rfl (runs_len_slice Tryd.underlying31 rfl) ?_
      refine s_val rfl rfl (runs_sub64 rfl rfl (by omega)) ?_
      refine s_val rfl rfl (runs_assign rfl) ?_
      refine s_nil ?_
      refine hK15 _ _ ?_
      refine c_block ?_
      refine c_loop (σ := Nat × TS) (fun s => [(10, .int .i64 ((s.1 : Int) - 1)), (0, tv), (4, .pointer (some ⟨b4, 0, none⟩)), (5, .pointer (some ⟨b5, 0, none⟩)), (6, .pointer (some ⟨b6, 0, none⟩)), (8, .pointer (some ⟨b8, 0, none⟩))]) (fun s W => s.1 ≤ n ∧ GH B W ∧ Blk W b4 (numC id) 24 ∧ Blk W b5 (pfC th r (.slice a n c)) 33 ∧ Blk W b6 (List.replicate 32 (.int .u8 0)) 26 ∧ HsR W a n c path ∧ Chg w W (foot ts) ∧ Blk W b8 (natsC .u8 (Sp.aclimb id s.1 (path.drop s.1) h0)) 26 ∧ (∃ hi', TG W B lo hi' (b8 :: b6 :: b5 :: b4 :: l) tv s.2) ∧ Notes (L1 ++ Sp.aclimbN id s.1 (path.drop s.1) h0) ts s.2 ∧ (∀ k ∈ foot s.2, k ∈ foot ts ∨ w.heap.size ≤ k) ∧ w1.heap.size ≤ W.heap.size) (fun s => s.1) (n, ts1) ⟨rfl, rfl, rfl, rfl, rfl, rfl, trivial⟩ ⟨Nat.le_refl _, hG, hb4, hb5, hb6, hH, hX, by rw [List.drop_eq_nil_of_le (by omega)]; exact hb8, ⟨hi1, hT⟩, by rw [List.drop_eq_nil_of_le (by omega)]; simpa [Sp.aclimbN] using hN, hF, hz1⟩ ?_
      rintro ⟨m, ts2⟩ wm ⟨hm, hG, hb4, hb5, hb6, hH, hX, hb8, ⟨hi2, hT⟩, hN, hF, hzm⟩
      dsimp only at *
      have hft1 := hT.foot
      have hnl2 := hN.len
      have htop2 := hT.top
      have hanl := aclimbN_len id h0 (path.drop m) m
      rw [List.length_append] at hnl2
      rw [List.length_drop] at hanl
      have hoka := aclimb_ok id h0 hh0 (path.drop m) m
      have hl8 := hb8.lt
      refine c_seq (fun K16 hK16 => ?_)
      refine c_seqreg (fun K17 hK17 => ?_)
      refine s_val rfl rfl (runs_move rfl) ?_
      refine s_val rfl rfl (runs_ge rfl rfl) ?_
      refine s_nil ?_
      refine hK17 _ _ ?_
      refine c_dec rfl (fun hm0 => ?_) (fun hm0 => ?_)
      · obtain ⟨i, rfl⟩ : ∃ i, m = i + 1 := ⟨m - 1, by omega⟩
        obtain ⟨p, hp⟩ : ∃ p, path[i]? = some p := ⟨_, List.getElem?_eq_getElem (by omega)⟩
        have hpk := hpo p (List.mem_of_getElem? hp)
        obtain ⟨ba, oa, rfl⟩ := hH.rd.some_ (by omega)
        have ea := aclimb_drop id h0 hp
        have eN := aclimbN_drop id h0 hp
        refine c_skip ?_
        refine hK16 _ _ ?_
        refine c_seq (fun K18 hK18 => ?_)
        refine c_block ?_
        refine c_seqdraw [9] ([]) (by kernel_rfl) ?_
        intro K19 hK19 wd17 Xd17 hS17
        replace hG := hG.keep Xd17 (by simp)
        replace hX : Chg w _ (foot ts) := (hX.trans Xd17).mono (by intro k hk hlt; simp at hk ⊢ <;> first | omega | grind)
        replace hT := hT.keep Xd17 (by simp)
        replace hH := hH.keep0 Xd17
        replace hb4 := hb4.keep Xd17 (by simp)
        replace hb5 := hb5.keep Xd17 (by simp)
        replace hb6 := hb6.keep Xd17 (by simp)
        replace hb8 := hb8.keep Xd17 (by simp)
        have zd17 := Xd17.size
        refine d_take 0 56 rfl (by kernel_rfl) rfl hS17 (fun wS hS => runs_loadAgg ty26 rfl (hb8.keep hS (by simp)).at (by rw [natsC_length, hoka.1])) ?_
        refine d_take 1 57 rfl (by kernel_rfl) rfl hS17 (fun wS hS => runs_fieldAddr Tryd.underlying33 rfl ty31 (by decide) rfl) ?_
        refine d_take 2 58 rfl (by kernel_rfl) rfl hS17 (fun wS hS => runs_load1 ty31 rfl ((hb5.keep hS (by simp)).cell (o := 47) (pfC_path hr))) ?_
        refine d_take 3 59 rfl (by kernel_rfl) rfl hS17 (fun wS hS => runs_as (v' := .int .i64 (i : Int)) (runs_move rfl) (congrArg (Value.int .i64) (by omega))) ?_
        refine d_take 4 60 rfl (by kernel_rfl) rfl hS17 (fun wS hS => runs_index_slice (i) Tryd.underlying31 ty26 rfl rfl (by omega) (by omega)) ?_
        refine d_take 5 61 rfl (by kernel_rfl) rfl hS17 (fun wS hS => runs_loadAgg ty26 rfl ((hH.keep hS (by simp)).elem hp) (by rw [natsC_length, hpk.1])) ?_
        refine d_two 6 7 rfl rfl (by kernel_rfl) ?_ ?_
        · refine s_alloc ty26 rfl rfl ?_
          intro b11 w176 e17_6 z17_6 hb11 X17_6
          replace hS17 : Chg wd17 _ [] := hS17.trans X17_6
          refine s_nil ⟨.inr hS17, ?_⟩
          refine d_only 7 rfl (by kernel_rfl) ?_
          refine s_alloc ty26 rfl rfl ?_
          intro b12 w177 e17_7 z17_7 hb12 X17_7
          have s17_7_hb11 := hb11.lt
          replace hb11 := hb11.keep X17_7 (by simp)
          replace hS17 : Chg wd17 _ [] := hS17.trans X17_7
          refine s_nil ⟨.inr hS17, ?_⟩
          refine d_only 8 rfl (by kernel_rfl) ?_
          refine s_storeAll ty26 rfl rfl rfl hb11 (by rw [natsC_length, hoka.1]) rfl (natsC_one _ _) ?_
          intro w178 z17_8 h17_8 X17_8
          replace hb12 := hb12.keep X17_8 (by simp; omega)
          replace hb11 := h17_8
          replace hS17 : Chg wd17 _ [] := (hS17.trans X17_8).mono (by intro k hk hlt; simp at hk; omega)
          refine s_nil ⟨.inr hS17, ?_⟩
          refine d_only 9 rfl (by kernel_rfl) ?_
          replace hG := hG.keep hS17 (by simp)
          replace hX : Chg w _ (foot ts) := (hX.trans hS17).mono (by intro k hk hlt; simp at hk ⊢ <;> first | omega | grind)
          replace hT := hT.keep hS17 (by simp)
          replace hH := hH.keep0 hS17
          replace hb4 := hb4.keep hS17 (by simp)
          replace hb5 := hb5.keep hS17 (by simp)
          replace hb6 := hb6.keep hS17 (by simp)
          replace hb8 := hb8.keep hS17 (by simp)
          refine s_storeAll ty26 rfl rfl rfl hb12 (by rw [natsC_length, hpk.1]) rfl (natsC_one _ _) ?_
          intro w179 z17_9 h17_9 X17_9
          replace hG := hG.keep X17_9 (by simp; omega)
          replace hX : Chg w _ (foot ts) := (hX.trans X17_9).mono (by intro k hk hlt; simp at hk ⊢ <;> first | omega | grind)
          replace hT := hT.keep X17_9 (by simp [Rg] <;> omega)
          replace hH := hH.keep X17_9 (fun p hp => by have := hob p hp; simp; omega)
          replace hb4 := hb4.keep X17_9 (by simp; omega)
          replace hb5 := hb5.keep X17_9 (by simp; omega)
          replace hb6 := hb6.keep X17_9 (by simp; omega)
          replace hb8 := hb8.keep X17_9 (by simp; omega)
          replace hb11 := hb11.keep X17_9 (by simp; omega)
          replace hb12 := h17_9
          refine s_nil ⟨.inl rfl, ?_⟩
          refine d_done (by kernel_rfl) ?_
          have hl11 := hb11.lt
          have hl12 := hb12.lt
          have hzX17 := hX.size
          refine hK19 _ _ ?_
          refine c_seq (fun K24 hK24 => ?_)
          refine c_seqreg (fun K25 hK25 => ?_)
          refine s_val rfl rfl (runs_loadAgg ty24 rfl hb4.at (numC_len _)) ?_
          refine s_val rfl rfl (runs_as (v' := .int .i64 (i : Int)) (runs_move rfl) (congrArg (Value.int .i64) (by omega))) ?_
          refine s_callf (xs := [.tmp 62, .tmp 63]) rfl rfl Tryd.func13 rfl (by kernel_rfl) rfl (bit_calls id i _ hid (by omega)) ?_
          rintro _ w182 ⟨rfl, X18_2⟩
          replace hG := hG.keep X18_2 (by simp)
          replace hX : Chg w _ (foot ts) := (hX.trans X18_2).mono (by intro k hk hlt; simp at hk ⊢ <;> first | omega | grind)
          replace hT := hT.keep X18_2 (by simp)
          replace hH := hH.keep0 X18_2
          replace hb4 := hb4.keep X18_2 (by simp)
          replace hb5 := hb5.keep X18_2 (by simp)
          replace hb6 := hb6.keep X18_2 (by simp)
          replace hb8 := hb8.keep X18_2 (by simp)
          replace hb11 := hb11.keep X18_2 (by simp)
          replace hb12 := hb12.keep X18_2 (by simp)
          have zs18_2 := X18_2.size
          refine s_val rfl rfl (runs_eqd rfl rfl) ?_
          refine s_nil ?_
          refine hK25 _ _ ?_
          refine c_dec rfl (fun hbit => ?_) (fun hbit => ?_)
          · rw [if_pos (show Sp.bit id i = 1 by omega)] at ea eN
            obtain ⟨x, hx⟩ : ∃ x, x = p := ⟨_, rfl⟩
            obtain ⟨y, hy⟩ : ∃ y, y = Sp.aclimb id (i + 1) (path.drop (i + 1)) h0 := ⟨_, rfl⟩
            have okx : HOk x := by rw [hx]; exact hpk
            have oky : HOk y := by rw [hy]; exact hoka
            refine c_reg ?_
            refine s_val rfl rfl (runs_loadAgg ty26 rfl hb12.at (by rw [natsC_length, hpk.1])) ?_
            refine s_val rfl rfl (runs_loadAgg ty26 rfl hb11.at (by rw [natsC_length, hoka.1])) ?_
            refine s_storeAll ty26 rfl rfl rfl hb11 (by rw [natsC_length, hpk.1]) (by rw [natsC_length, hoka.1]) (natsC_one _ _) ?_
            intro w192 z19_2 h19_2 X19_2
            replace hG := hG.keep X19_2 (by simp; omega)
            replace hX : Chg w _ (foot ts) := (hX.trans X19_2).mono (by intro k hk hlt; simp at hk ⊢ <;> first | omega | grind)
            replace hT := hT.keep X19_2 (by simp [Rg] <;> omega)
            replace hH := hH.keep X19_2 (fun p hp => by have := hob p hp; simp; omega)
            replace hb4 := hb4.keep X19_2 (by simp; omega)
            replace hb5 := hb5.keep X19_2 (by simp; omega)
            replace hb6 := hb6.keep X19_2 (by simp; omega)
            replace hb8 := hb8.keep X19_2 (by simp; omega)
            replace hb12 := hb12.keep X19_2 (by simp; omega)
            replace hb11 := h19_2
            refine s_storeAll ty26 rfl rfl rfl hb12 (by rw [natsC_length, hoka.1]) (by rw [natsC_length, hpk.1]) (natsC_one _ _) ?_
            intro w193 z19_3 h19_3 X19_3
            replace hG := hG.keep X19_3 (by simp; omega)
            replace hX : Chg w _ (foot ts) := (hX.trans X19_3).mono (by intro k hk hlt; simp at hk ⊢ <;> first | omega | grind)
            replace hT := hT.keep X19_3 (by simp [Rg] <;> omega)
            replace hH := hH.keep X19_3 (fun p hp => by have := hob p hp; simp; omega)
            replace hb4 := hb4.keep X19_3 (by simp; omega)
            replace hb5 := hb5.keep X19_3 (by simp; omega)
            replace hb6 := hb6.keep X19_3 (by simp; omega)
            replace hb8 := hb8.keep X19_3 (by simp; omega)
            replace hb11 := hb11.keep X19_3 (by simp; omega)
            replace hb12 := h19_3
            refine s_nil ?_
            rw [← hx] at hb11 ea eN
            rw [← hy] at hb12 ea eN
            refine hK24 _ _ ?_
            refine c_drawX [6] ((foot ts2)) (by kernel_rfl) ?_
            intro wd20 Xd20 hS20
            replace hG := hG.keep Xd20 (by simp)
            replace hX : Chg w _ (foot ts) := (hX.trans Xd20).mono (by intro k hk hlt; simp at hk ⊢ <;> first | omega | grind)
            replace hT := hT.keep Xd20 (by simp)
            replace hH := hH.keep0 Xd20
            replace hb4 := hb4.keep Xd20 (by simp)
            replace hb5 := hb5.keep Xd20 (by simp)
            replace hb6 := hb6.keep Xd20 (by simp)
            replace hb8 := hb8.keep Xd20 (by simp)
            replace hb11 := hb11.keep Xd20 (by simp)
            replace hb12 := hb12.keep Xd20 (by simp)
            have zd20 := Xd20.size
            obtain ⟨am, cm, hmc, hmr, hml⟩ := hG.fork.rd
            refine d_take 0 68 rfl (by kernel_rfl) rfl hS20 (fun wS hS => runs_move rfl) ?_
            refine d_take 1 69 rfl (by kernel_rfl) rfl hS20 (fun wS hS => runs_load1 ty47 rfl (hS.cell hmc (show 0 ∉ foot ts2 from fun hm => by have := hT.arg.foot_lo _ hm; have := hG.fork.lt; omega))) ?_
            refine d_take 2 70 rfl (by kernel_rfl) rfl hS20 (fun wS hS => runs_slice_arr Tryd.underlying26 ty5 rfl) ?_
            refine d_take 3 71 rfl (by kernel_rfl) rfl hS20 (fun wS hS => runs_slice_arr Tryd.underlying26 ty5 rfl) ?_
            refine d_only 4 rfl (by kernel_rfl) ?_
            refine s_lit (xs := [.tmp 69, .tmp 70, .tmp 71]) Tryd.underlying51 ty47 rfl rfl rfl rfl rfl (by simp [Value.cells]) (by decide) (by decide) ?_
            intro b13 w204 e20_4 z20_4 hb13 X20_4
            have s20_4_hX := hX.size
            replace hG := hG.keep X20_4 (by simp)
            replace hT := hT.keep X20_4 (by simp)
            replace hX : Chg w _ (foot ts) := (hX.trans X20_4).mono (by intro k hk hlt; simp at hk ⊢ <;> first | omega | grind)
            have hz204 := X20_4.size
            replace hS20 : Chg wd20 _ ((foot ts2)) := (hS20.trans X20_4).mono (by intro k hk hlt; simp at hk ⊢ <;> first | assumption | omega)
            refine s_nil ⟨.inr hS20, ?_⟩
            refine d_only 5 rfl (by kernel_rfl) ?_
            refine s_callf (xs := [.tmp 68, .tmp 72]) rfl rfl Tryd.func18 rfl (by kernel_rfl) rfl ((hT.set (b12 :: b11 :: (b8 :: b6 :: b5 :: b4 :: l)) (by intro x hx; simp only [List.mem_cons] at hx ⊢; rcases hx with rfl | rfl | hx; right; omega; right; omega; left; exact hx)).of hG (by omega) (by omega) (by intro x hx; simp only [List.mem_cons] at hx; rcases hx with rfl | rfl | rfl | rfl | rfl | rfl | hx; omega; omega; omega; omega; omega; omega; have := hl x hx; omega) (bss := [[3], x, y]) (parts_three hb13 (hmr.grow X20_4) (lit_reads (hb11.keep X20_4 (by simp)) (by rw [natsC_length, okx.1]) (by decide)) (lit_reads (hb12.keep X20_4 (by simp)) (by rw [natsC_length, oky.1]) (by decide)) (by simp) okx.2 oky.2) (by simp [okx.1, oky.1]) (by omega)) ?_
            rintro _ w205 ⟨rfl, ts3, hP3⟩
            replace hG := hG.keep hP3.chg (fun k hk => hT.arg.foot_lo k hk)
            replace hX : Chg w _ (foot ts) := (hX.trans hP3.chg).mono (by intro k hk hlt; simp only [List.mem_append] at hk; rcases hk with hk | hk; exact hk; rcases hF k hk with h | h; exact h; omega)
            have zs20_5 := hP3.chg.size
            have hT := hP3.tg
            replace hN := hN.trans hP3.notes
            replace hF : ∀ k ∈ foot ts3, k ∈ foot ts ∨ w.heap.size ≤ k := fun k hk => (hP3.foot k hk).elim (fun h => hF k h) (fun h => .inr (by omega))
            replace hS20 : Chg wd20 _ ((foot ts2)) := (hS20.trans hP3.chg).mono (by intro k hk hlt; simp at hk ⊢ <;> first | assumption | omega)
            refine s_nil ⟨.inr hS20, ?_⟩
            refine d_only 6 rfl (by kernel_rfl) ?_
            replace hH := hH.keep hS20 (fun p hp hm => by
              rcases ho p hp with h | h
              · have := (hft1 _ hm).1; omega
              · exact (hft1 _ hm).2.2 (by simp [h]))
            replace hb4 := hb4.keep hS20 (fun hm => (hft1 _ hm).2.2 (by simp))
            replace hb5 := hb5.keep hS20 (fun hm => (hft1 _ hm).2.2 (by simp))
            replace hb6 := hb6.keep hS20 (fun hm => (hft1 _ hm).2.2 (by simp))
            replace hb8 := hb8.keep hS20 (fun hm => (hft1 _ hm).2.2 (by simp))
            replace hb11 := hb11.keep hS20 (fun hm => by have := (hft1 _ hm).2.1; omega)
            replace hb12 := hb12.keep hS20 (fun hm => by have := (hft1 _ hm).2.1; omega)
            refine s_storeAll ty26 rfl rfl rfl hb8 (by rw [natsC_length, sha_length]) (by rw [natsC_length, hoka.1]) (natsC_one _ _) ?_
            intro w206 z20_6 h20_6 X20_6
            replace hH := hH.keep X20_6 (fun p hp => by have := hob p hp; simp; omega)
            replace hb4 := hb4.keep X20_6 (by simp; omega)
            replace hb5 := hb5.keep X20_6 (by simp; omega)
            replace hb6 := hb6.keep X20_6 (by simp; omega)
            replace hb11 := hb11.keep X20_6 (by simp; omega)
            replace hb12 := hb12.keep X20_6 (by simp; omega)
            replace hG := hG.keep X20_6 (by simp; omega)
            replace hX : Chg w _ (foot ts) := (hX.trans X20_6).mono (by intro k hk hlt; simp at hk ⊢ <;> first | omega | grind)
            replace hT := hT.keep X20_6 (by simp [Rg] <;> omega)
            replace hb8 := h20_6
            refine s_nil ⟨.inl rfl, ?_⟩
            refine d_done (by kernel_rfl) ?_
            replace hb8 : Blk w206 b8 (natsC .u8 (Sp.aclimb id i (path.drop i) h0)) 26 := by rw [ea]; simpa [Sp.fork] using hb8
            replace hN : Notes (L1 ++ Sp.aclimbN id (i + 1) (path.drop (i + 1)) h0 ++ [3 :: (x ++ y)]) ts ts3 := by simpa using hN
            replace hT := hT.set (b8 :: b6 :: b5 :: b4 :: l) (by intro z hz; left; simp only [List.mem_cons] at hz ⊢; simp [hz])
            have hzX20 := hX.size
            refine hK18 _ _ ?_
            refine c_reg ?_
            refine s_val rfl rfl (runs_move rfl) ?_
            refine s_val rfl rfl (runs_as (v' := .int .i64 ((i : Int) - 1)) (runs_sub64 rfl rfl (by omega)) (congrArg (Value.int .i64) (by omega))) ?_
            refine s_val rfl rfl (runs_assign rfl) ?_
            refine s_nil ?_
            dsimp only [Post.setN]
            exact ⟨(i, ts3), ⟨rfl, rfl, rfl, rfl, rfl, rfl, trivial⟩, ⟨by dsimp only; omega, hG, hb4, hb5, hb6, hH, hX, hb8, ⟨_, hT⟩, by rw [eN, ← List.append_assoc]; exact hN, hF, by omega⟩, by dsimp only; omega⟩
          · rw [if_neg (show ¬ Sp.bit id i = 1 by omega)] at ea eN
            obtain ⟨y, hy⟩ : ∃ y, y = p := ⟨_, rfl⟩
            obtain ⟨x, hx⟩ : ∃ x, x = Sp.aclimb id (i + 1) (path.drop (i + 1)) h0 := ⟨_, rfl⟩
            have oky : HOk y := by rw [hy]; exact hpk
            have okx : HOk x := by rw [hx]; exact hoka
            rw [← hx] at hb11 ea eN
            rw [← hy] at hb12 ea eN
            refine c_skip ?_
            refine hK24 _ _ ?_
            refine c_drawX [6] ((foot ts2)) (by kernel_rfl) ?_
            intro wd20 Xd20 hS20
            replace hG := hG.keep Xd20 (by simp)
            replace hX : Chg w _ (foot ts) := (hX.trans Xd20).mono (by intro k hk hlt; simp at hk ⊢ <;> first | omega | grind)
            replace hT := hT.keep Xd20 (by simp)
            replace hH := hH.keep0 Xd20
            replace hb4 := hb4.keep Xd20 (by simp)
            replace hb5 := hb5.keep Xd20 (by simp)
            replace hb6 := hb6.keep Xd20 (by simp)
            replace hb8 := hb8.keep Xd20 (by simp)
            replace hb11 := hb11.keep Xd20 (by simp)
            replace hb12 := hb12.keep Xd20 (by simp)
            have zd20 := Xd20.size
            obtain ⟨am, cm, hmc, hmr, hml⟩ := hG.fork.rd
            refine d_take 0 68 rfl (by kernel_rfl) rfl hS20 (fun wS hS => runs_move rfl) ?_
            refine d_take 1 69 rfl (by kernel_rfl) rfl hS20 (fun wS hS => runs_load1 ty47 rfl (hS.cell hmc (show 0 ∉ foot ts2 from fun hm => by have := hT.arg.foot_lo _ hm; have := hG.fork.lt; omega))) ?_
            refine d_take 2 70 rfl (by kernel_rfl) rfl hS20 (fun wS hS => runs_slice_arr Tryd.underlying26 ty5 rfl) ?_
            refine d_take 3 71 rfl (by kernel_rfl) rfl hS20 (fun wS hS => runs_slice_arr Tryd.underlying26 ty5 rfl) ?_
            refine d_only 4 rfl (by kernel_rfl) ?_
            refine s_lit (xs := [.tmp 69, .tmp 70, .tmp 71]) Tryd.underlying51 ty47 rfl rfl rfl rfl rfl (by simp [Value.cells]) (by decide) (by decide) ?_
            intro b13 w204 e20_4 z20_4 hb13 X20_4
            have s20_4_hX := hX.size
            replace hG := hG.keep X20_4 (by simp)
            replace hT := hT.keep X20_4 (by simp)
            replace hX : Chg w _ (foot ts) := (hX.trans X20_4).mono (by intro k hk hlt; simp at hk ⊢ <;> first | omega | grind)
            have hz204 := X20_4.size
            replace hS20 : Chg wd20 _ ((foot ts2)) := (hS20.trans X20_4).mono (by intro k hk hlt; simp at hk ⊢ <;> first | assumption | omega)
            refine s_nil ⟨.inr hS20, ?_⟩
            refine d_only 5 rfl (by kernel_rfl) ?_
            refine s_callf (xs := [.tmp 68, .tmp 72]) rfl rfl Tryd.func18 rfl (by kernel_rfl) rfl ((hT.set (b12 :: b11 :: (b8 :: b6 :: b5 :: b4 :: l)) (by intro x hx; simp only [List.mem_cons] at hx ⊢; rcases hx with rfl | rfl | hx; right; omega; right; omega; left; exact hx)).of hG (by omega) (by omega) (by intro x hx; simp only [List.mem_cons] at hx; rcases hx with rfl | rfl | rfl | rfl | rfl | rfl | hx; omega; omega; omega; omega; omega; omega; have := hl x hx; omega) (bss := [[3], x, y]) (parts_three hb13 (hmr.grow X20_4) (lit_reads (hb11.keep X20_4 (by simp)) (by rw [natsC_length, okx.1]) (by decide)) (lit_reads (hb12.keep X20_4 (by simp)) (by rw [natsC_length, oky.1]) (by decide)) (by simp) okx.2 oky.2) (by simp [okx.1, oky.1]) (by omega)) ?_
            rintro _ w205 ⟨rfl, ts3, hP3⟩
            replace hG := hG.keep hP3.chg (fun k hk => hT.arg.foot_lo k hk)
            replace hX : Chg w _ (foot ts) := (hX.trans hP3.chg).mono (by intro k hk hlt; simp only [List.mem_append] at hk; rcases hk with hk | hk; exact hk; rcases hF k hk with h | h; exact h; omega)
            have zs20_5 := hP3.chg.size
            have hT := hP3.tg
            replace hN := hN.trans hP3.notes
            replace hF : ∀ k ∈ foot ts3, k ∈ foot ts ∨ w.heap.size ≤ k := fun k hk => (hP3.foot k hk).elim (fun h => hF k h) (fun h => .inr (by omega))
            replace hS20 : Chg wd20 _ ((foot ts2)) := (hS20.trans hP3.chg).mono (by intro k hk hlt; simp at hk ⊢ <;> first | assumption | omega)
            refine s_nil ⟨.inr hS20, ?_⟩
            refine d_only 6 rfl (by kernel_rfl) ?_
            replace hH := hH.keep hS20 (fun p hp hm => by
              rcases ho p hp with h | h
              · have := (hft1 _ hm).1; omega
              · exact (hft1 _ hm).2.2 (by simp [h]))
            replace hb4 := hb4.keep hS20 (fun hm => (hft1 _ hm).2.2 (by simp))
            replace hb5 := hb5.keep hS20 (fun hm => (hft1 _ hm).2.2 (by simp))
            replace hb6 := hb6.keep hS20 (fun hm => (hft1 _ hm).2.2 (by simp))
            replace hb8 := hb8.keep hS20 (fun hm => (hft1 _ hm).2.2 (by simp))
            replace hb11 := hb11.keep hS20 (fun hm => by have := (hft1 _ hm).2.1; omega)
            replace hb12 := hb12.keep hS20 (fun hm => by have := (hft1 _ hm).2.1; omega)
            refine s_storeAll ty26 rfl rfl rfl hb8 (by rw [natsC_length, sha_length]) (by rw [natsC_length, hoka.1]) (natsC_one _ _) ?_
            intro w206 z20_6 h20_6 X20_6
            replace hH := hH.keep X20_6 (fun p hp => by have := hob p hp; simp; omega)
            replace hb4 := hb4.keep X20_6 (by simp; omega)
            replace hb5 := hb5.keep X20_6 (by simp; omega)
            replace hb6 := hb6.keep X20_6 (by simp; omega)
            replace hb11 := hb11.keep X20_6 (by simp; omega)
            replace hb12 := hb12.keep X20_6 (by simp; omega)
            replace hG := hG.keep X20_6 (by simp; omega)
            replace hX : Chg w _ (foot ts) := (hX.trans X20_6).mono (by intro k hk hlt; simp at hk ⊢ <;> first | omega | grind)
            replace hT := hT.keep X20_6 (by simp [Rg] <;> omega)
            replace hb8 := h20_6
            refine s_nil ⟨.inl rfl, ?_⟩
            refine d_done (by kernel_rfl) ?_
            replace hb8 : Blk w206 b8 (natsC .u8 (Sp.aclimb id i (path.drop i) h0)) 26 := by rw [ea]; simpa [Sp.fork] using hb8
            replace hN : Notes (L1 ++ Sp.aclimbN id (i + 1) (path.drop (i + 1)) h0 ++ [3 :: (x ++ y)]) ts ts3 := by simpa using hN
            replace hT := hT.set (b8 :: b6 :: b5 :: b4 :: l) (by intro z hz; left; simp only [List.mem_cons] at hz ⊢; simp [hz])
            have hzX20 := hX.size
            refine hK18 _ _ ?_
            refine c_reg ?_
            refine s_val rfl rfl (runs_move rfl) ?_
            refine s_val rfl rfl (runs_as (v' := .int .i64 ((i : Int) - 1)) (runs_sub64 rfl rfl (by omega)) (congrArg (Value.int .i64) (by omega))) ?_
            refine s_val rfl rfl (runs_assign rfl) ?_
            refine s_nil ?_
            dsimp only [Post.setN]
            exact ⟨(i, ts3), ⟨rfl, rfl, rfl, rfl, rfl, rfl, trivial⟩, ⟨by dsimp only; omega, hG, hb4, hb5, hb6, hH, hX, hb8, ⟨_, hT⟩, by rw [eN, ← List.append_assoc]; exact hN, hF, by omega⟩, by dsimp only; omega⟩
        · refine s_alloc ty26 rfl rfl ?_
          intro b12 w177 e17_7 z17_7 hb12 X17_7
          replace hS17 : Chg wd17 _ [] := hS17.trans X17_7
          refine s_nil ⟨.inr hS17, ?_⟩
          refine d_only 6 rfl (by kernel_rfl) ?_
          refine s_alloc ty26 rfl rfl ?_
          intro b11 w176 e17_6 z17_6 hb11 X17_6
          have s17_6_hb12 := hb12.lt
          replace hb12 := hb12.keep X17_6 (by simp)
          replace hS17 : Chg wd17 _ [] := hS17.trans X17_6
          refine s_nil ⟨.inr hS17, ?_⟩
          refine d_only 8 rfl (by kernel_rfl) ?_
          refine s_storeAll ty26 rfl rfl rfl hb11 (by rw [natsC_length, hoka.1]) rfl (natsC_one _ _) ?_
          intro w178 z17_8 h17_8 X17_8
          replace hb12 := hb12.keep X17_8 (by simp; omega)
          replace hb11 := h17_8
          replace hS17 : Chg wd17 _ [] := (hS17.trans X17_8).mono (by intro k hk hlt; simp at hk; omega)
          refine s_nil ⟨.inr hS17, ?_⟩
          refine d_only 9 rfl (by kernel_rfl) ?_
          replace hG := hG.keep hS17 (by simp)
          replace hX : Chg w _ (foot ts) := (hX.trans hS17).mono (by intro k hk hlt; simp at hk ⊢ <;> first | omega | grind)
          replace hT := hT.keep hS17 (by simp)
          replace hH := hH.keep0 hS17
          replace hb4 := hb4.keep hS17 (by simp)
          replace hb5 := hb5.keep hS17 (by simp)
          replace hb6 := hb6.keep hS17 (by simp)
          replace hb8 := hb8.keep hS17 (by simp)
          refine s_storeAll ty26 rfl rfl rfl hb12 (by rw [natsC_length, hpk.1]) rfl (natsC_one _ _) ?_
          intro w179 z17_9 h17_9 X17_9
          replace hG := hG.keep X17_9 (by simp; omega)
          replace hX : Chg w _ (foot ts) := (hX.trans X17_9).mono (by intro k hk hlt; simp at hk ⊢ <;> first | omega | grind)
          replace hT := hT.keep X17_9 (by simp [Rg] <;> omega)
          replace hH := hH.keep X17_9 (fun p hp => by have := hob p hp; simp; omega)
          replace hb4 := hb4.keep X17_9 (by simp; omega)
          replace hb5 := hb5.keep X17_9 (by simp; omega)
          replace hb6 := hb6.keep X17_9 (by simp; omega)
          replace hb8 := hb8.keep X17_9 (by simp; omega)
          replace hb11 := hb11.keep X17_9 (by simp; omega)
          replace hb12 := h17_9
          refine s_nil ⟨.inl rfl, ?_⟩
          refine d_done (by kernel_rfl) ?_
          have hl11 := hb11.lt
          have hl12 := hb12.lt
          have hzX17 := hX.size
          refine hK19 _ _ ?_
          refine c_seq (fun K39 hK39 => ?_)
          refine c_seqreg (fun K40 hK40 => ?_)
          refine s_val rfl rfl (runs_loadAgg ty24 rfl hb4.at (numC_len _)) ?_
          refine s_val rfl rfl (runs_as (v' := .int .i64 (i : Int)) (runs_move rfl) (congrArg (Value.int .i64) (by omega))) ?_
          refine s_callf (xs := [.tmp 62, .tmp 63]) rfl rfl Tryd.func13 rfl (by kernel_rfl) rfl (bit_calls id i _ hid (by omega)) ?_
          rintro _ w182 ⟨rfl, X18_2⟩
          replace hG := hG.keep X18_2 (by simp)
          replace hX : Chg w _ (foot ts) := (hX.trans X18_2).mono (by intro k hk hlt; simp at hk ⊢ <;> first | omega | grind)
          replace hT := hT.keep X18_2 (by simp)
          replace hH := hH.keep0 X18_2
          replace hb4 := hb4.keep X18_2 (by simp)
          replace hb5 := hb5.keep X18_2 (by simp)
          replace hb6 := hb6.keep X18_2 (by simp)
          replace hb8 := hb8.keep X18_2 (by simp)
          replace hb12 := hb12.keep X18_2 (by simp)
          replace hb11 := hb11.keep X18_2 (by simp)
          have zs18_2 := X18_2.size
          refine s_val rfl rfl (runs_eqd rfl rfl) ?_
          refine s_nil ?_
          refine hK40 _ _ ?_
          refine c_dec rfl (fun hbit => ?_) (fun hbit => ?_)
          · rw [if_pos (show Sp.bit id i = 1 by omega)] at ea eN
            obtain ⟨x, hx⟩ : ∃ x, x = p := ⟨_, rfl⟩
            obtain ⟨y, hy⟩ : ∃ y, y = Sp.aclimb id (i + 1) (path.drop (i + 1)) h0 := ⟨_, rfl⟩
            have okx : HOk x := by rw [hx]; exact hpk
            have oky : HOk y := by rw [hy]; exact hoka
            refine c_reg ?_
            refine s_val rfl rfl (runs_loadAgg ty26 rfl hb12.at (by rw [natsC_length, hpk.1])) ?_
            refine s_val rfl rfl (runs_loadAgg ty26 rfl hb11.at (by rw [natsC_length, hoka.1])) ?_
            refine s_storeAll ty26 rfl rfl rfl hb11 (by rw [natsC_length, hpk.1]) (by rw [natsC_length, hoka.1]) (natsC_one _ _) ?_
            intro w192 z19_2 h19_2 X19_2
            replace hG := hG.keep X19_2 (by simp; omega)
            replace hX : Chg w _ (foot ts) := (hX.trans X19_2).mono (by intro k hk hlt; simp at hk ⊢ <;> first | omega | grind)
            replace hT := hT.keep X19_2 (by simp [Rg] <;> omega)
            replace hH := hH.keep X19_2 (fun p hp => by have := hob p hp; simp; omega)
            replace hb4 := hb4.keep X19_2 (by simp; omega)
            replace hb5 := hb5.keep X19_2 (by simp; omega)
            replace hb6 := hb6.keep X19_2 (by simp; omega)
            replace hb8 := hb8.keep X19_2 (by simp; omega)
            replace hb12 := hb12.keep X19_2 (by simp; omega)
            replace hb11 := h19_2
            refine s_storeAll ty26 rfl rfl rfl hb12 (by rw [natsC_length, hoka.1]) (by rw [natsC_length, hpk.1]) (natsC_one _ _) ?_
            intro w193 z19_3 h19_3 X19_3
            replace hG := hG.keep X19_3 (by simp; omega)
            replace hX : Chg w _ (foot ts) := (hX.trans X19_3).mono (by intro k hk hlt; simp at hk ⊢ <;> first | omega | grind)
            replace hT := hT.keep X19_3 (by simp [Rg] <;> omega)
            replace hH := hH.keep X19_3 (fun p hp => by have := hob p hp; simp; omega)
            replace hb4 := hb4.keep X19_3 (by simp; omega)
            replace hb5 := hb5.keep X19_3 (by simp; omega)
            replace hb6 := hb6.keep X19_3 (by simp; omega)
            replace hb8 := hb8.keep X19_3 (by simp; omega)
            replace hb11 := hb11.keep X19_3 (by simp; omega)
            replace hb12 := h19_3
            refine s_nil ?_
            rw [← hx] at hb11 ea eN
            rw [← hy] at hb12 ea eN
            refine hK39 _ _ ?_
            refine c_drawX [6] ((foot ts2)) (by kernel_rfl) ?_
            intro wd20 Xd20 hS20
            replace hG := hG.keep Xd20 (by simp)
            replace hX : Chg w _ (foot ts) := (hX.trans Xd20).mono (by intro k hk hlt; simp at hk ⊢ <;> first | omega | grind)
            replace hT := hT.keep Xd20 (by simp)
            replace hH := hH.keep0 Xd20
            replace hb4 := hb4.keep Xd20 (by simp)
            replace hb5 := hb5.keep Xd20 (by simp)
            replace hb6 := hb6.keep Xd20 (by simp)
            replace hb8 := hb8.keep Xd20 (by simp)
            replace hb12 := hb12.keep Xd20 (by simp)
            replace hb11 := hb11.keep Xd20 (by simp)
            have zd20 := Xd20.size
            obtain ⟨am, cm, hmc, hmr, hml⟩ := hG.fork.rd
            refine d_take 0 68 rfl (by kernel_rfl) rfl hS20 (fun wS hS => runs_move rfl) ?_
            refine d_take 1 69 rfl (by kernel_rfl) rfl hS20 (fun wS hS => runs_load1 ty47 rfl (hS.cell hmc (show 0 ∉ foot ts2 from fun hm => by have := hT.arg.foot_lo _ hm; have := hG.fork.lt; omega))) ?_
            refine d_take 2 70 rfl (by kernel_rfl) rfl hS20 (fun wS hS => runs_slice_arr Tryd.underlying26 ty5 rfl) ?_
            refine d_take 3 71 rfl (by kernel_rfl) rfl hS20 (fun wS hS => runs_slice_arr Tryd.underlying26 ty5 rfl) ?_
            refine d_only 4 rfl (by kernel_rfl) ?_
            refine s_lit (xs := [.tmp 69, .tmp 70, .tmp 71]) Tryd.underlying51 ty47 rfl rfl rfl rfl rfl (by simp [Value.cells]) (by decide) (by decide) ?_
            intro b13 w204 e20_4 z20_4 hb13 X20_4
            have s20_4_hX := hX.size
            replace hG := hG.keep X20_4 (by simp)
            replace hT := hT.keep X20_4 (by simp)
            replace hX : Chg w _ (foot ts) := (hX.trans X20_4).mono (by intro k hk hlt; simp at hk ⊢ <;> first | omega | grind)
            have hz204 := X20_4.size
            replace hS20 : Chg wd20 _ ((foot ts2)) := (hS20.trans X20_4).mono (by intro k hk hlt; simp at hk ⊢ <;> first | assumption | omega)
            refine s_nil ⟨.inr hS20, ?_⟩
            refine d_only 5 rfl (by kernel_rfl) ?_
            refine s_callf (xs := [.tmp 68, .tmp 72]) rfl rfl Tryd.func18 rfl (by kernel_rfl) rfl ((hT.set (b12 :: b11 :: (b8 :: b6 :: b5 :: b4 :: l)) (by intro x hx; simp only [List.mem_cons] at hx ⊢; rcases hx with rfl | rfl | hx; right; omega; right; omega; left; exact hx)).of hG (by omega) (by omega) (by intro x hx; simp only [List.mem_cons] at hx; rcases hx with rfl | rfl | rfl | rfl | rfl | rfl | hx; omega; omega; omega; omega; omega; omega; have := hl x hx; omega) (bss := [[3], x, y]) (parts_three hb13 (hmr.grow X20_4) (lit_reads (hb11.keep X20_4 (by simp)) (by rw [natsC_length, okx.1]) (by decide)) (lit_reads (hb12.keep X20_4 (by simp)) (by rw [natsC_length, oky.1]) (by decide)) (by simp) okx.2 oky.2) (by simp [okx.1, oky.1]) (by omega)) ?_
            rintro _ w205 ⟨rfl, ts3, hP3⟩
            replace hG := hG.keep hP3.chg (fun k hk => hT.arg.foot_lo k hk)
            replace hX : Chg w _ (foot ts) := (hX.trans hP3.chg).mono (by intro k hk hlt; simp only [List.mem_append] at hk; rcases hk with hk | hk; exact hk; rcases hF k hk with h | h; exact h; omega)
            have zs20_5 := hP3.chg.size
            have hT := hP3.tg
            replace hN := hN.trans hP3.notes
            replace hF : ∀ k ∈ foot ts3, k ∈ foot ts ∨ w.heap.size ≤ k := fun k hk => (hP3.foot k hk).elim (fun h => hF k h) (fun h => .inr (by omega))
            replace hS20 : Chg wd20 _ ((foot ts2)) := (hS20.trans hP3.chg).mono (by intro k hk hlt; simp at hk ⊢ <;> first | assumption | omega)
            refine s_nil ⟨.inr hS20, ?_⟩
            refine d_only 6 rfl (by kernel_rfl) ?_
            replace hH := hH.keep hS20 (fun p hp hm => by
              rcases ho p hp with h | h
              · have := (hft1 _ hm).1; omega
              · exact (hft1 _ hm).2.2 (by simp [h]))
            replace hb4 := hb4.keep hS20 (fun hm => (hft1 _ hm).2.2 (by simp))
            replace hb5 := hb5.keep hS20 (fun hm => (hft1 _ hm).2.2 (by simp))
            replace hb6 := hb6.keep hS20 (fun hm => (hft1 _ hm).2.2 (by simp))
            replace hb8 := hb8.keep hS20 (fun hm => (hft1 _ hm).2.2 (by simp))
            replace hb12 := hb12.keep hS20 (fun hm => by have := (hft1 _ hm).2.1; omega)
            replace hb11 := hb11.keep hS20 (fun hm => by have := (hft1 _ hm).2.1; omega)
            refine s_storeAll ty26 rfl rfl rfl hb8 (by rw [natsC_length, sha_length]) (by rw [natsC_length, hoka.1]) (natsC_one _ _) ?_
            intro w206 z20_6 h20_6 X20_6
            replace hH := hH.keep X20_6 (fun p hp => by have := hob p hp; simp; omega)
            replace hb4 := hb4.keep X20_6 (by simp; omega)
            replace hb5 := hb5.keep X20_6 (by simp; omega)
            replace hb6 := hb6.keep X20_6 (by simp; omega)
            replace hb12 := hb12.keep X20_6 (by simp; omega)
            replace hb11 := hb11.keep X20_6 (by simp; omega)
            replace hG := hG.keep X20_6 (by simp; omega)
            replace hX : Chg w _ (foot ts) := (hX.trans X20_6).mono (by intro k hk hlt; simp at hk ⊢ <;> first | omega | grind)
            replace hT := hT.keep X20_6 (by simp [Rg] <;> omega)
            replace hb8 := h20_6
            refine s_nil ⟨.inl rfl, ?_⟩
            refine d_done (by kernel_rfl) ?_
            replace hb8 : Blk w206 b8 (natsC .u8 (Sp.aclimb id i (path.drop i) h0)) 26 := by rw [ea]; simpa [Sp.fork] using hb8
            replace hN : Notes (L1 ++ Sp.aclimbN id (i + 1) (path.drop (i + 1)) h0 ++ [3 :: (x ++ y)]) ts ts3 := by simpa using hN
            replace hT := hT.set (b8 :: b6 :: b5 :: b4 :: l) (by intro z hz; left; simp only [List.mem_cons] at hz ⊢; simp [hz])
            have hzX20 := hX.size
            refine hK18 _ _ ?_
            refine c_reg ?_
            refine s_val rfl rfl (runs_move rfl) ?_
            refine s_val rfl rfl (runs_as (v' := .int .i64 ((i : Int) - 1)) (runs_sub64 rfl rfl (by omega)) (congrArg (Value.int .i64) (by omega))) ?_
            refine s_val rfl rfl (runs_assign rfl) ?_
            refine s_nil ?_
            dsimp only [Post.setN]
            exact ⟨(i, ts3), ⟨rfl, rfl, rfl, rfl, rfl, rfl, trivial⟩, ⟨by dsimp only; omega, hG, hb4, hb5, hb6, hH, hX, hb8, ⟨_, hT⟩, by rw [eN, ← List.append_assoc]; exact hN, hF, by omega⟩, by dsimp only; omega⟩
          · rw [if_neg (show ¬ Sp.bit id i = 1 by omega)] at ea eN
            obtain ⟨y, hy⟩ : ∃ y, y = p := ⟨_, rfl⟩
            obtain ⟨x, hx⟩ : ∃ x, x = Sp.aclimb id (i + 1) (path.drop (i + 1)) h0 := ⟨_, rfl⟩
            have oky : HOk y := by rw [hy]; exact hpk
            have okx : HOk x := by rw [hx]; exact hoka
            rw [← hx] at hb11 ea eN
            rw [← hy] at hb12 ea eN
            refine c_skip ?_
            refine hK39 _ _ ?_
            refine c_drawX [6] ((foot ts2)) (by kernel_rfl) ?_
            intro wd20 Xd20 hS20
            replace hG := hG.keep Xd20 (by simp)
            replace hX : Chg w _ (foot ts) := (hX.trans Xd20).mono (by intro k hk hlt; simp at hk ⊢ <;> first | omega | grind)
            replace hT := hT.keep Xd20 (by simp)
            replace hH := hH.keep0 Xd20
            replace hb4 := hb4.keep Xd20 (by simp)
            replace hb5 := hb5.keep Xd20 (by simp)
            replace hb6 := hb6.keep Xd20 (by simp)
            replace hb8 := hb8.keep Xd20 (by simp)
            replace hb12 := hb12.keep Xd20 (by simp)
            replace hb11 := hb11.keep Xd20 (by simp)
            have zd20 := Xd20.size
            obtain ⟨am, cm, hmc, hmr, hml⟩ := hG.fork.rd
            refine d_take 0 68 rfl (by kernel_rfl) rfl hS20 (fun wS hS => runs_move rfl) ?_
            refine d_take 1 69 rfl (by kernel_rfl) rfl hS20 (fun wS hS => runs_load1 ty47 rfl (hS.cell hmc (show 0 ∉ foot ts2 from fun hm => by have := hT.arg.foot_lo _ hm; have := hG.fork.lt; omega))) ?_
            refine d_take 2 70 rfl (by kernel_rfl) rfl hS20 (fun wS hS => runs_slice_arr Tryd.underlying26 ty5 rfl) ?_
            refine d_take 3 71 rfl (by kernel_rfl) rfl hS20 (fun wS hS => runs_slice_arr Tryd.underlying26 ty5 rfl) ?_
            refine d_only 4 rfl (by kernel_rfl) ?_
            refine s_lit (xs := [.tmp 69, .tmp 70, .tmp 71]) Tryd.underlying51 ty47 rfl rfl rfl rfl rfl (by simp [Value.cells]) (by decide) (by decide) ?_
            intro b13 w204 e20_4 z20_4 hb13 X20_4
            have s20_4_hX := hX.size
            replace hG := hG.keep X20_4 (by simp)
            replace hT := hT.keep X20_4 (by simp)
            replace hX : Chg w _ (foot ts) := (hX.trans X20_4).mono (by intro k hk hlt; simp at hk ⊢ <;> first | omega | grind)
            have hz204 := X20_4.size
            replace hS20 : Chg wd20 _ ((foot ts2)) := (hS20.trans X20_4).mono (by intro k hk hlt; simp at hk ⊢ <;> first | assumption | omega)
            refine s_nil ⟨.inr hS20, ?_⟩
            refine d_only 5 rfl (by kernel_rfl) ?_
            refine s_callf (xs := [.tmp 68, .tmp 72]) rfl rfl Tryd.func18 rfl (by kernel_rfl) rfl ((hT.set (b12 :: b11 :: (b8 :: b6 :: b5 :: b4 :: l)) (by intro x hx; simp only [List.mem_cons] at hx ⊢; rcases hx with rfl | rfl | hx; right; omega; right; omega; left; exact hx)).of hG (by omega) (by omega) (by intro x hx; simp only [List.mem_cons] at hx; rcases hx with rfl | rfl | rfl | rfl | rfl | rfl | hx; omega; omega; omega; omega; omega; omega; have := hl x hx; omega) (bss := [[3], x, y]) (parts_three hb13 (hmr.grow X20_4) (lit_reads (hb11.keep X20_4 (by simp)) (by rw [natsC_length, okx.1]) (by decide)) (lit_reads (hb12.keep X20_4 (by simp)) (by rw [natsC_length, oky.1]) (by decide)) (by simp) okx.2 oky.2) (by simp [okx.1, oky.1]) (by omega)) ?_
            rintro _ w205 ⟨rfl, ts3, hP3⟩
            replace hG := hG.keep hP3.chg (fun k hk => hT.arg.foot_lo k hk)
            replace hX : Chg w _ (foot ts) := (hX.trans hP3.chg).mono (by intro k hk hlt; simp only [List.mem_append] at hk; rcases hk with hk | hk; exact hk; rcases hF k hk with h | h; exact h; omega)
            have zs20_5 := hP3.chg.size
            have hT := hP3.tg
            replace hN := hN.trans hP3.notes
            replace hF : ∀ k ∈ foot ts3, k ∈ foot ts ∨ w.heap.size ≤ k := fun k hk => (hP3.foot k hk).elim (fun h => hF k h) (fun h => .inr (by omega))
            replace hS20 : Chg wd20 _ ((foot ts2)) := (hS20.trans hP3.chg).mono (by intro k hk hlt; simp at hk ⊢ <;> first | assumption | omega)
            refine s_nil ⟨.inr hS20, ?_⟩
            refine d_only 6 rfl (by kernel_rfl) ?_
            replace hH := hH.keep hS20 (fun p hp hm => by
              rcases ho p hp with h | h
              · have := (hft1 _ hm).1; omega
              · exact (hft1 _ hm).2.2 (by simp [h]))
            replace hb4 := hb4.keep hS20 (fun hm => (hft1 _ hm).2.2 (by simp))
            replace hb5 := hb5.keep hS20 (fun hm => (hft1 _ hm).2.2 (by simp))
            replace hb6 := hb6.keep hS20 (fun hm => (hft1 _ hm).2.2 (by simp))
            replace hb8 := hb8.keep hS20 (fun hm => (hft1 _ hm).2.2 (by simp))
            replace hb12 := hb12.keep hS20 (fun hm => by have := (hft1 _ hm).2.1; omega)
            replace hb11 := hb11.keep hS20 (fun hm => by have := (hft1 _ hm).2.1; omega)
            refine s_storeAll ty26 rfl rfl rfl hb8 (by rw [natsC_length, sha_length]) (by rw [natsC_length, hoka.1]) (natsC_one _ _) ?_
            intro w206 z20_6 h20_6 X20_6
            replace hH := hH.keep X20_6 (fun p hp => by have := hob p hp; simp; omega)
            replace hb4 := hb4.keep X20_6 (by simp; omega)
            replace hb5 := hb5.keep X20_6 (by simp; omega)
            replace hb6 := hb6.keep X20_6 (by simp; omega)
            replace hb12 := hb12.keep X20_6 (by simp; omega)
            replace hb11 := hb11.keep X20_6 (by simp; omega)
            replace hG := hG.keep X20_6 (by simp; omega)
            replace hX : Chg w _ (foot ts) := (hX.trans X20_6).mono (by intro k hk hlt; simp at hk ⊢ <;> first | omega | grind)
            replace hT := hT.keep X20_6 (by simp [Rg] <;> omega)
            replace hb8 := h20_6
            refine s_nil ⟨.inl rfl, ?_⟩
            refine d_done (by kernel_rfl) ?_
            replace hb8 : Blk w206 b8 (natsC .u8 (Sp.aclimb id i (path.drop i) h0)) 26 := by rw [ea]; simpa [Sp.fork] using hb8
            replace hN : Notes (L1 ++ Sp.aclimbN id (i + 1) (path.drop (i + 1)) h0 ++ [3 :: (x ++ y)]) ts ts3 := by simpa using hN
            replace hT := hT.set (b8 :: b6 :: b5 :: b4 :: l) (by intro z hz; left; simp only [List.mem_cons] at hz ⊢; simp [hz])
            have hzX20 := hX.size
            refine hK18 _ _ ?_
            refine c_reg ?_
            refine s_val rfl rfl (runs_move rfl) ?_
            refine s_val rfl rfl (runs_as (v' := .int .i64 ((i : Int) - 1)) (runs_sub64 rfl rfl (by omega)) (congrArg (Value.int .i64) (by omega))) ?_
            refine s_val rfl rfl (runs_assign rfl) ?_
            refine s_nil ?_
            dsimp only [Post.setN]
            exact ⟨(i, ts3), ⟨rfl, rfl, rfl, rfl, rfl, rfl, trivial⟩, ⟨by dsimp only; omega, hG, hb4, hb5, hb6, hH, hX, hb8, ⟨_, hT⟩, by rw [eN, ← List.append_assoc]; exact hN, hF, by omega⟩, by dsimp only; omega⟩
      · obtain rfl : m = 0 := by omega
        refine c_exit ?_
        refine hK14 _ _ ?_
        refine c_seqreg (fun K50 hK50 => ?_)
        refine s_val rfl rfl (runs_loadAgg ty26 rfl hb8.at (by rw [natsC_length, hoka.1])) ?_
        refine s_storeAll ty26 rfl rfl rfl hb6 (by rw [natsC_length, hoka.1]) (by simp) (natsC_one _ _) ?_
        intro w211 z21_1 h21_1 X21_1
        replace hG := hG.keep X21_1 (by simp; omega)
        replace hX : Chg w _ (foot ts) := (hX.trans X21_1).mono (by intro k hk hlt; simp at hk ⊢ <;> first | omega | grind)
        replace hT := hT.keep X21_1 (by simp [Rg] <;> omega)
        replace hH := hH.keep X21_1 (fun p hp => by have := hob p hp; simp; omega)
        replace hb4 := hb4.keep X21_1 (by simp; omega)
        replace hb5 := hb5.keep X21_1 (by simp; omega)
        replace hb8 := hb8.keep X21_1 (by simp; omega)
        replace hb6 := h21_1
        refine s_val rfl rfl (runs_assign rfl) ?_
        refine s_nil ?_
        refine hK50 _ _ ?_
        refine c_ret ?_
        refine hret _ _ ?_
        refine ends2 (reads_cell ty26 rfl hb6.at (by rw [natsC_length, hoka.1])) (reads_tmp rfl) ⟨by rw [hcR]; simp [hv], ts2, ?_⟩
        rw [hcN]
        exact ⟨hT.set l (fun _ h => .inl (by simp [h])), by simpa using hN, hX, hF⟩
    refine c_seqreg (fun K52 hK52 => ?_)
    refine s_val rfl rfl (runs_fieldAddr Tryd.underlying33 rfl ty4 (by decide) rfl) ?_
    refine s_val rfl rfl (runs_load1 ty4 rfl (hb5.cell (o := 0) rfl)) ?_
    refine s_nil ?_
    refine hK52 _ _ ?_
    refine c_if rfl (fun hth => ?_) (fun hth => ?_)
    · subst hth
      refine c_seqreg (fun K53 hK53 => ?_)
      refine s_val rfl rfl (runs_move rfl) ?_
      refine s_val rfl rfl (runs_fieldAddr Tryd.underlying33 rfl ty28 (by decide) rfl) ?_
      refine s_val rfl rfl (runs_loadAgg ty28 rfl (pf_acc hb5 hr) (Ac.len hr)) ?_
      refine s_callf (xs := [.tmp 22, .tmp 24]) rfl rfl Tryd.func23 rfl (by kernel_rfl) rfl (hT.aleaf hG (by omega) (by omega) (by intro x hx; simp only [List.mem_cons] at hx; rcases hx with rfl | rfl | rfl | rfl | hx; omega; omega; omega; omega; have := hl x hx; omega) hr (by omega)) ?_
      rintro _ w53 ⟨rfl, ts2, hP2⟩
      replace hG := hG.keep hP2.chg (fun k hk => hT.arg.foot_lo k hk)
      replace hX : Chg w _ (foot ts) := (hX.trans hP2.chg).mono (by intro k hk hlt; simp only [List.mem_append] at hk; rcases hk with hk | hk; exact hk; rcases hF k hk with h | h; exact h; omega)
      replace hH := hH.keep hP2.chg (fun p hp hm => by
        rcases ho p hp with h | h
        · have := (hft1 _ hm).1; omega
        · exact (hft1 _ hm).2.2 (by simp [h]))
      replace hb4 := hb4.keep hP2.chg (fun hm => (hft1 _ hm).2.2 (by simp))
      replace hb5 := hb5.keep hP2.chg (fun hm => (hft1 _ hm).2.2 (by simp))
      replace hb6 := hb6.keep hP2.chg (fun hm => (hft1 _ hm).2.2 (by simp))
      replace hb8 := hb8.keep hP2.chg (fun hm => (hft1 _ hm).2.2 (by simp))
      have zs5_3 := hP2.chg.size
      have hT := hP2.tg
      replace hN := hN.trans hP2.notes
      replace hF : ∀ k ∈ foot ts2, k ∈ foot ts ∨ w.heap.size ≤ k := fun k hk => (hP2.foot k hk).elim (fun h => hF k h) (fun h => .inr (by omega))
      clear hft1
      have hft1 := hT.foot
      refine s_storeAll ty26 rfl rfl rfl hb8 (by rw [natsC_length, (aleaf_ok _).1]) (by rw [natsC_length, anone_ok.1]) (natsC_one _ _) ?_
      intro w54 z5_4 h5_4 X5_4
      replace hG := hG.keep X5_4 (by simp; omega)
      replace hX : Chg w _ (foot ts) := (hX.trans X5_4).mono (by intro k hk hlt; simp at hk ⊢ <;> first | omega | grind)
      replace hH := hH.keep X5_4 (fun p hp => by have := hob p hp; simp; omega)
      replace hb4 := hb4.keep X5_4 (by simp; omega)
      replace hb5 := hb5.keep X5_4 (by simp; omega)
      replace hb6 := hb6.keep X5_4 (by simp; omega)
      replace hT := hT.keep X5_4 (by simp [Rg] <;> omega)
      replace hb8 := h5_4
      refine s_nil ?_
      have hzX5 := hX.size
      refine hK53 _ _ ?_
      refine c_seqreg (fun K56 hK56 => ?_)
      refine s_val rfl rfl (runs_fieldAddr Tryd.underlying33 rfl ty31 (by decide) rfl) ?_
      refine s_val rfl rfl (runs_load1 ty31 rfl (hb5.cell (o := 47) (pfC_path hr))) ?_
      refine s_val rfl rfl (runs_len_slice Tryd.underlying31 rfl) ?_
      refine s_val rfl rfl (runs_move rfl) ?_
      refine s_nil ?_
      refine hK56 _ _ ?_
      refine c_block ?_
      refine c_loop (σ := Nat) (fun i => [(29, .int .i64 (i : Int)), (28, .int .i64 (n : Int)), (0, tv), (4, .pointer (some ⟨b4, 0, none⟩)), (5, .pointer (some ⟨b5, 0, none⟩)), (6, .pointer (some ⟨b6, 0, none⟩)), (8, .pointer (some ⟨b8, 0, none⟩))]) (fun i W => i ≤ n ∧ (∀ j, j < i → Sp.bit r.id j = Sp.bit id j) ∧ Chg w54 W []) (fun i => n - i) 0 ⟨rfl, rfl, rfl, rfl, rfl, rfl, rfl, trivial⟩ ⟨Nat.zero_le _, fun j hj => by omega, Chg.refl _ _⟩ ?_
      rintro i wi ⟨hi, hlo', XL⟩
      replace hX : Chg w wi (foot ts) := (hX.trans XL).mono (by intro k hk hlt; simpa using hk)
      replace hT := hT.keep0 XL
      replace hG := hG.keep XL (by simp)
      replace hH := hH.keep0 XL
      replace hb4 := hb4.keep XL (by simp)
      replace hb5 := hb5.keep XL (by simp)
      replace hb6 := hb6.keep XL (by simp)
      replace hb8 := hb8.keep XL (by simp)
      have hzXL := XL.size
      refine c_seqreg (fun K57 hK57 => ?_)
      refine s_val rfl rfl (runs_lt rfl rfl) ?_
      refine s_nil ?_
      refine hK57 _ _ ?_
      refine c_seq (fun K58 hK58 => ?_)
      refine c_dec rfl (fun hin => ?_) (fun hin => ?_)
      · refine c_skip ?_
        refine hK58 _ _ ?_
        refine c_seq (fun K59 hK59 => ?_)
        refine c_block ?_
        refine c_seqreg (fun K60 hK60 => ?_)
        refine s_val rfl rfl (runs_move rfl) ?_
        refine s_val rfl rfl (runs_assign rfl) ?_
        refine s_nil ?_
        refine hK60 _ _ ?_
        refine c_seqdraw [] ([]) (by kernel_rfl) ?_
        intro K61 hK61 wd9 Xd9 hS9
        replace hG := hG.keep Xd9 (by simp)
        replace hX : Chg w _ (foot ts) := (hX.trans Xd9).mono (by intro k hk hlt; simp at hk ⊢ <;> first | omega | grind)
        replace hT := hT.keep Xd9 (by simp)
        replace hH := hH.keep0 Xd9
        replace hb4 := hb4.keep Xd9 (by simp)
        replace hb5 := hb5.keep Xd9 (by simp)
        replace hb6 := hb6.keep Xd9 (by simp)
        replace hb8 := hb8.keep Xd9 (by simp)
        replace XL : Chg w54 _ [] := (XL.trans Xd9).mono (by intro k hk hlt; simp at hk ⊢ <;> first | omega | grind)
        have zd9 := Xd9.size
        refine d_take 0 32 rfl (by kernel_rfl) rfl hS9 (fun wS hS => runs_fieldAddr Tryd.underlying33 rfl ty28 (by decide) rfl) ?_
        refine d_take 1 33 rfl (by kernel_rfl) rfl hS9 (fun wS hS => runs_fieldAddr Tryd.underlying28 rfl ty24 (by decide) rfl) ?_
        refine d_take 2 34 rfl (by kernel_rfl) rfl hS9 (fun wS hS => runs_loadAgg ty24 rfl ((pf_acc (hb5.keep hS (by simp)) hr).sub 0 2) (by rfl)) ?_
        refine d_take 3 35 rfl (by kernel_rfl) rfl hS9 (fun wS hS => runs_move rfl) ?_
        refine d_take 5 37 rfl (by kernel_rfl) rfl hS9 (fun wS hS => runs_loadAgg ty24 rfl (hb4.keep hS (by simp)).at (numC_len _)) ?_
        refine d_take 6 38 rfl (by kernel_rfl) rfl hS9 (fun wS hS => runs_move rfl) ?_
        refine d_only 4 rfl (by kernel_rfl) ?_
        refine s_callf (xs := [.tmp 34, .tmp 35]) rfl rfl Tryd.func13 rfl (by kernel_rfl) rfl (bit_calls r.id i _ hr.id (by omega)) ?_
        rintro _ w94 ⟨rfl, X9_4⟩
        have zs9_4 := X9_4.size
        replace hS9 : Chg wd9 _ [] := hS9.trans X9_4
        refine s_nil ⟨.inr hS9, ?_⟩
        refine d_only 7 rfl (by kernel_rfl) ?_
        refine s_callf (xs := [.tmp 37, .tmp 38]) rfl rfl Tryd.func13 rfl (by kernel_rfl) rfl (bit_calls id i _ hid (by omega)) ?_
        rintro _ w97 ⟨rfl, X9_7⟩
        have zs9_7 := X9_7.size
        replace hS9 : Chg wd9 _ [] := hS9.trans X9_7
        refine s_nil ⟨.inr hS9, ?_⟩
        refine d_take 8 40 rfl (by kernel_rfl) rfl hS9 (fun wS hS => runs_ned rfl rfl) ?_
        refine d_done (by kernel_rfl) ?_
        replace hG := hG.keep hS9 (by simp)
        replace hX : Chg w _ (foot ts) := (hX.trans hS9).mono (by intro k hk hlt; simp at hk ⊢ <;> first | omega | grind)
        replace hT := hT.keep hS9 (by simp)
        replace hH := hH.keep0 hS9
        replace hb4 := hb4.keep hS9 (by simp)
        replace hb5 := hb5.keep hS9 (by simp)
        replace hb6 := hb6.keep hS9 (by simp)
        replace hb8 := hb8.keep hS9 (by simp)
        replace XL : Chg w54 _ [] := (XL.trans hS9).mono (by intro k hk hlt; simp at hk ⊢ <;> first | omega | grind)
        refine hK61 _ _ ?_
        refine c_dec rfl (fun hne => ?_) (fun hne => ?_)
        · refine c_seqreg (fun K64 hK64 => ?_)
          refine s_val rfl rfl (runs_build_zero Tryd.underlying26 ty5 ty26 rfl) ?_
          refine s_storeAll ty26 rfl rfl rfl hb6 (by simp) (by simp) (by simp [Value.oneCell']) ?_
          intro w101 z10_1 h10_1 X10_1
          replace hG := hG.keep X10_1 (by simp; omega)
          replace hX : Chg w _ (foot ts) := (hX.trans X10_1).mono (by intro k hk hlt; simp at hk ⊢ <;> first | omega | grind)
          replace hT := hT.keep X10_1 (by simp [Rg] <;> omega)
          replace hH := hH.keep X10_1 (fun p hp => by have := hob p hp; simp; omega)
          replace hb4 := hb4.keep X10_1 (by simp; omega)
          replace hb5 := hb5.keep X10_1 (by simp; omega)
          replace hb8 := hb8.keep X10_1 (by simp; omega)
          replace hb6 := h10_1
          refine s_val rfl rfl (runs_assign rfl) ?_
          refine s_nil ?_
          refine hK64 _ _ ?_
          refine c_ret ?_
          refine hret _ _ ?_
          have hst := stray_true (n := path.length) (show i < path.length by omega) (show Sp.bit r.id i ≠ Sp.bit id i by omega)
          have e1 : Sp.aclimbR id true r path = (Sp.zero32, false) := by rw [Sp.aclimbR, if_neg (by omega), if_pos rfl, if_pos hst]
          have e2 : Sp.aclimbRN id true r path = [[4]] ++ [2 :: Sp.acB r] := by rw [Sp.aclimbRN, if_neg (by omega), if_pos rfl, if_pos hst]; rfl
          refine ends2 (reads_cell ty26 rfl hb6.at (by simp)) (reads_tmp rfl) ⟨by rw [e1]; simp [hv, zero_cells], ts2, ?_⟩
          rw [e2]
          exact ⟨hT.set l (fun _ h => .inl (by simp [h])), hN, hX, hF⟩
        · refine c_skip ?_
          refine hK59 _ _ ?_
          refine c_reg ?_
          refine s_val rfl rfl (runs_add64 rfl rfl (by omega)) ?_
          refine s_val rfl rfl (runs_move rfl) ?_
          refine s_nil ?_
          dsimp only [Post.setN]
          exact ⟨i + 1, ⟨rfl, rfl, rfl, rfl, rfl, rfl, rfl, trivial⟩, ⟨by omega, fun j hj => by
            by_cases e : j = i
            · subst e; omega
            · exact hlo' j (by omega), XL⟩, by omega⟩
      · refine c_exit ?_
        first
          | exact hJ13 ts2 ([[4]] ++ [2 :: Sp.acB r]) (Sp.aleaf r) _ ⟨hG, hb4, hb5, hb6, hH, hX, hb8, aleaf_ok _, ⟨_, hT⟩, hN, hF, by have := hX.size; omega, by simp, by rw [Sp.aclimbR, if_neg (by omega), if_pos rfl, if_neg (by rw [stray_false (fun i hi => hlo' i (by omega))]; decide)], by rw [Sp.aclimbRN, if_neg (by omega), if_pos rfl, if_neg (by rw [stray_false (fun i hi => hlo' i (by omega))]; decide)]; rfl, hb8.lt⟩ _ (by exact ⟨rfl, rfl, rfl, rfl, rfl, trivial⟩)
          | exact hJ13 ts1 [[4]] Sp.anone _ ⟨hG, hb4, hb5, hb6, hH, hX, hb8, anone_ok, ⟨_, hT⟩, hN, hF, by have := hX.size; omega, by simp, by rw [Sp.aclimbR, if_neg (by omega), if_neg (by decide), if_neg hnz], by rw [Sp.aclimbRN, if_neg (by omega), if_neg (by decide), if_neg hnz], hb8.lt⟩ _ (by exact ⟨rfl, rfl, rfl, rfl, rfl, trivial⟩)
    · subst hth
      refine c_seqreg (fun K66 hK66 => ?_)
      refine s_val rfl rfl (runs_fieldAddr Tryd.underlying33 rfl ty28 (by decide) rfl) ?_
      refine s_val rfl rfl (runs_loadAgg ty28 rfl (pf_acc hb5 hr) (Ac.len hr)) ?_
      refine s_val rfl rfl (runs_buildv (v := av Sp.zeroA) [] rfl (by kernel_rfl)) ?_
      refine s_val rfl rfl (runs_acc_ne rfl rfl hr zeroA_num) ?_
      refine s_nil ?_
      refine hK66 _ _ ?_
      refine c_dec rfl (fun hnz => ?_) (fun hnz => ?_)
      · refine c_seqreg (fun K67 hK67 => ?_)
        refine s_val rfl rfl (runs_build_zero Tryd.underlying26 ty5 ty26 rfl) ?_
        refine s_storeAll ty26 rfl rfl rfl hb6 (by simp) (by simp) (by simp [Value.oneCell']) ?_
        intro w131 z13_1 h13_1 X13_1
        replace hG := hG.keep X13_1 (by simp; omega)
        replace hX : Chg w _ (foot ts) := (hX.trans X13_1).mono (by intro k hk hlt; simp at hk ⊢ <;> first | omega | grind)
        replace hH := hH.keep X13_1 (fun p hp => by have := hob p hp; simp; omega)
        replace hb4 := hb4.keep X13_1 (by simp; omega)
        replace hb5 := hb5.keep X13_1 (by simp; omega)
        replace hT := hT.keep X13_1 (by simp [Rg] <;> omega)
        replace hb8 := hb8.keep X13_1 (by simp; omega)
        replace hb6 := h13_1
        refine s_val rfl rfl (runs_assign rfl) ?_
        refine s_nil ?_
        refine hK67 _ _ ?_
        refine c_ret ?_
        refine hret _ _ ?_
        have e1 : Sp.aclimbR id false r path = (Sp.zero32, false) := by rw [Sp.aclimbR, if_neg (by omega), if_neg (by decide), if_pos hnz]
        have e2 : Sp.aclimbRN id false r path = [[4]] := by rw [Sp.aclimbRN, if_neg (by omega), if_neg (by decide), if_pos hnz]
        refine ends2 (reads_cell ty26 rfl hb6.at (by simp)) (reads_tmp rfl) ⟨by rw [e1]; simp [hv, zero_cells], ts1, ?_⟩
        rw [e2]
        exact ⟨hT.set l (fun _ h => .inl (by simp [h])), hN, hX, hF⟩
      · refine c_skip ?_
        first
          | exact hJ13 ts2 ([[4]] ++ [2 :: Sp.acB r]) (Sp.aleaf r) _ ⟨hG, hb4, hb5, hb6, hH, hX, hb8, aleaf_ok _, ⟨_, hT⟩, hN, hF, by have := hX.size; omega, by simp, by rw [Sp.aclimbR, if_neg (by omega), if_pos rfl, if_neg (by rw [stray_false (fun i hi => hlo' i (by omega))]; decide)], by rw [Sp.aclimbRN, if_neg (by omega), if_pos rfl, if_neg (by rw [stray_false (fun i hi => hlo' i (by omega))]; decide)]; rfl, hb8.lt⟩ _ (by exact ⟨rfl, rfl, rfl, rfl, rfl, trivial⟩)
          | exact hJ13 ts1 [[4]] Sp.anone _ ⟨hG, hb4, hb5, hb6, hH, hX, hb8, anone_ok, ⟨_, hT⟩, hN, hF, by have := hX.size; omega, by simp, by rw [Sp.aclimbR, if_neg (by omega), if_neg (by decide), if_neg hnz], by rw [Sp.aclimbRN, if_neg (by omega), if_neg (by decide), if_neg hnz], hb8.lt⟩ _ (by exact ⟨rfl, rfl, rfl, rfl, rfl, trivial⟩)
end Go.Proofs.YtmmijecookbajaaDoor
