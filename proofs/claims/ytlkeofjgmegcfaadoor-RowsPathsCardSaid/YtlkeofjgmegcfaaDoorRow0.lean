/- Part Row0 of the proofs on this seat. Conditions: none beyond those in the theorems. By an AI agent. -/
import Derived.Test.YtlkeofjgmegcfaaDoorWire1
namespace Go.Proofs.YtlkeofjgmegcfaaDoor
open Go Go.RowKit

/-- A row. -/
structure Rw where
  tr : Nm
  time : Int
  event : Int
  am : Nm
  dp : Nm
  dq : Nm
  cp : Nm
  cq : Nm
deriving DecidableEq
def Rw.C (r : Rw) : List Value := [.int .u64 (r.tr.1 : Int), .int .u64 (r.tr.2 : Int), .int .i64 r.time, .int .i64 r.event, .int .u64 (r.am.1 : Int), .int .u64 (r.am.2 : Int), .int .u64 (r.dp.1 : Int), .int .u64 (r.dp.2 : Int), .int .u64 (r.dq.1 : Int), .int .u64 (r.dq.2 : Int), .int .u64 (r.cp.1 : Int), .int .u64 (r.cp.2 : Int), .int .u64 (r.cq.1 : Int), .int .u64 (r.cq.2 : Int)]
def rv (r : Rw) : Value := .agg r.C.toArray
theorem Rw.len (r : Rw) : r.C.length = 14 := rfl
theorem Rw.one (r : Rw) : ∀ u ∈ r.C, u.oneCell' = true := by intro u hu; simp [Rw.C] at hu; rcases hu with rfl | rfl | rfl | rfl | rfl | rfl | rfl | rfl | rfl | rfl | rfl | rfl | rfl | rfl <;> rfl
/-- Its numbers are numbers of 128 bits. -/
structure Rw.Num (r : Rw) : Prop where
  tr : NOk r.tr
  am : NOk r.am
  dp : NOk r.dp
  dq : NOk r.dq
  cp : NOk r.cp
  cq : NOk r.cq
/-- As the laws have them. -/
structure Rw.Ok (r : Rw) : Prop where
  num : r.Num
  time : 0 ≤ r.time ∧ r.time ≤ 65535
  event : 0 ≤ r.event ∧ r.event ≤ 255
def Sp.rowB (r : Rw) : List Nat := Sp.numB r.tr ++ Sp.intB 6 r.time ++ Sp.intB 2 (r.event + 1) ++ [r.am, r.dp, r.dq, r.cp, r.cq].flatMap Sp.numB
theorem rowB_len (r : Rw) : (Sp.rowB r).length = 104 := by simp only [Sp.rowB, List.length_append, numB_len, intB_len, numsB_len, List.length_cons, List.length_nil]
theorem rowB_lt (r : Rw) : ∀ v ∈ Sp.rowB r, v < 256 := by
  intro v hv
  simp only [Sp.rowB, List.mem_append, List.mem_flatMap] at hv
  rcases hv with ((hv | hv) | hv) | ⟨x, _, hv⟩
  · exact numB_lt _ v hv
  · exact intB_lt _ _ v hv
  · exact intB_lt _ _ v hv
  · exact numB_lt _ v hv
theorem row_eq (w : World) (x y : Rw) : (Op.equalIn 10000 34 (rv x) (rv y)).run Tryd.prog w = .ok (decide (x = y)) w := by
  have h := eq_agg (P := Tryd.prog) (w := w) (d := 9999) (t := 34) (xs := x.C.toArray) (ys := y.C.toArray) Tryd.underlying34 (by kernel_rfl)
    (eqF_cons rfl (partA ty32 (i := 0)) (partA ty32 (i := 0)) (num_eq (d := 9997) w x.tr y.tr)
    (eqF_cons rfl (part1 ty3 (i := 2) rfl) (part1 ty3 (i := 2) rfl) (run_equalIn_int w 9998 _ _ _ _ _ Tryd.underlying3)
    (eqF_cons rfl (part1 ty3 (i := 3) rfl) (part1 ty3 (i := 3) rfl) (run_equalIn_int w 9998 _ _ _ _ _ Tryd.underlying3)
    (eqF_cons rfl (partA ty32 (i := 4)) (partA ty32 (i := 4)) (num_eq (d := 9997) w x.am y.am)
    (eqF_cons rfl (partA ty32 (i := 6)) (partA ty32 (i := 6)) (num_eq (d := 9997) w x.dp y.dp)
    (eqF_cons rfl (partA ty32 (i := 8)) (partA ty32 (i := 8)) (num_eq (d := 9997) w x.dq y.dq)
    (eqF_cons rfl (partA ty32 (i := 10)) (partA ty32 (i := 10)) (num_eq (d := 9997) w x.cp y.cp)
    (eqF_cons rfl (partA ty32 (i := 12)) (partA ty32 (i := 12)) (num_eq (d := 9997) w x.cq y.cq) eqF_nil))))))))
  refine h.trans ?_
  congr 1
  rw [Bool.eq_iff_iff]
  obtain ⟨a1, a2, a3, a4, a5, a6, a7, a8⟩ := x
  obtain ⟨b1, b2, b3, b4, b5, b6, b7, b8⟩ := y
  simp [Rw.mk.injEq]
section
variable {ρ : Env} {w : World} {ty tyy : TypeId} {x y : Operand} {a b : Rw}
theorem runs_row_eq (hx : ev? ρ x = some (rv a)) (hy : ev? ρ y = some (rv b)) : Runs Tryd.prog ρ (.binOp .eql 34 x y tyy) ty w (.bool (decide (a = b))) w :=
  runs_agg_eq (by kernel_rfl) hx hy (row_eq w a b)
theorem runs_row_ne (hx : ev? ρ x = some (rv a)) (hy : ev? ρ y = some (rv b)) : Runs Tryd.prog ρ (.binOp .neq 34 x y tyy) ty w (.bool (decide (a ≠ b))) w :=
  runs_as (runs_agg_ne (by kernel_rfl) hx hy (row_eq w a b)) (by congr 1; by_cases h : a = b <;> simp [h])
end

/-- What was laid behind c of the calls. -/
def Sp.rowP (r : Rw) : Nat → List Nat
  | 0 => []
  | 1 => Sp.numB r.tr
  | 2 => Sp.numB r.tr ++ Sp.intB 6 r.time
  | 3 => Sp.numB r.tr ++ Sp.intB 6 r.time ++ Sp.intB 2 (r.event + 1)
  | _ => Sp.rowB r
theorem WrP.rt {w0 w w' : World} {bw : Nat} {v v' : Value} {bs bs0 : List Nat} (h : WrP w w' bw v v' bs) (hw : WrV w bw v bs0) (hs : w0.heap.size ≤ w.heap.size) (hn : ∀ k, v.ownBlock = some k → w0.heap.size ≤ k) : RT w0 [bw] [5, 75] w w' :=
  RT.of h.chg hs fun k hk => by
    rcases List.mem_cons.1 hk with rfl | hk
    · refine ⟨.inl (by simp), fun cs t hb => ?_⟩
      have := hb.symm.trans hw.blk
      simp at this
      rw [this.2]; simp
    · obtain ⟨h1, h2, cs, h3⟩ := own_blk hw.own (by simpa using hk)
      refine ⟨.inr (hn k (by simpa using hk)), fun cs' t hb => ?_⟩
      have := hb.symm.trans h3
      simp at this
      rw [this.2]; simp

set_option maxHeartbeats 2000000 in
theorem wireRow_calls (r : Rw) (w : World) (hr : r.Ok) : CallsR Tryd.prog 26 #[rv r] w fun v w' => w'.ownsRow w.heap.size 5 1 v 104 (natsC .u8 (Sp.rowB r)) ∧ Chg w w' [] := by
  have hX : Chg w w [] := Chg.refl _ _
  obtain ⟨hn, ht, he⟩ := hr
  refine f_enter (l := [rv r]) Tryd.func26 rfl rfl rfl rfl ?_
  intro Qf hnrm hret
  refine c_seqreg (fun K1 hK1 => ?_)
  refine s_box rfl rfl rfl ?_
  intro b1 w1 e0_0 z0_0 hb1 X0_0
  have s0_0_hX := hX.size
  replace hX : Chg w _ [] := (hX.trans X0_0).mono (by intro k hk hlt; simp at hk ⊢ <;> first | omega | grind)
  replace hb1 : Blk w1 b1 (r.C) 34 := hb1
  have hl1 := hb1.lt
  refine s_val rfl rfl (runs_assign rfl) ?_
  refine s_nil ?_
  refine hK1 _ _ ?_
  refine c_seqreg (fun K3 hK3 => ?_)
  refine s_alloc ty75 rfl rfl ?_
  intro bw w2 e1_0 z1_0 hbw X1_0
  have s1_0_hX := hX.size
  have s1_0_hb1 := hb1.lt
  replace hX : Chg w _ [] := (hX.trans X1_0).mono (by intro k hk hlt; simp at hk ⊢ <;> first | omega | grind)
  replace hb1 := hb1.keep X1_0 (by simp)
  replace hbw : Blk w2 bw ([.slice none 0 0]) 75 := hbw
  have hlw := hbw.lt
  refine s_nil ?_
  refine hK3 _ _ ?_
  refine c_seqdraw [] ([bw]) (by kernel_rfl) ?_
  intro K5 hK5 wd2 Xd2 hS2
  replace hX : Chg w _ [] := (hX.trans Xd2).mono (by intro k hk hlt; simp at hk ⊢ <;> first | omega | grind)
  replace hb1 := hb1.keep Xd2 (by simp)
  replace hbw := hbw.keep Xd2 (by simp)
  have zd2 := Xd2.size
  have hW0 : WrV wd2 bw (.slice none 0 0) [] := ⟨hbw, World.ownsRow_nil _ _ _ _⟩
  refine d_take 0 4 rfl (by kernel_rfl) rfl hS2 (fun wS hS => runs_fieldAddr Tryd.underlying34 rfl ty32 (by decide) rfl) ?_
  refine d_take 1 5 rfl (by kernel_rfl) rfl hS2 (fun wS hS => runs_loadAgg ty32 rfl ((hb1.keep hS (by simp; omega)).at.sub 0 2) (by rfl)) ?_
  refine d_take 4 8 rfl (by kernel_rfl) rfl hS2 (fun wS hS => runs_fieldAddr Tryd.underlying34 rfl ty3 (by decide) rfl) ?_
  refine d_take 5 9 rfl (by kernel_rfl) rfl hS2 (fun wS hS => runs_load1 ty3 rfl ((hb1.keep hS (by simp; omega)).cell (o := 2) rfl)) ?_
  refine d_take 8 12 rfl (by kernel_rfl) rfl hS2 (fun wS hS => runs_fieldAddr Tryd.underlying34 rfl ty3 (by decide) rfl) ?_
  refine d_take 9 13 rfl (by kernel_rfl) rfl hS2 (fun wS hS => runs_load1 ty3 rfl ((hb1.keep hS (by simp; omega)).cell (o := 3) rfl)) ?_
  refine d_take 10 14 rfl (by kernel_rfl) rfl hS2 (fun wS hS => runs_add64 rfl rfl (by omega)) ?_
  refine d_take 13 17 rfl (by kernel_rfl) rfl hS2 (fun wS hS => runs_fieldAddr Tryd.underlying34 rfl ty32 (by decide) rfl) ?_
  refine d_take 14 18 rfl (by kernel_rfl) rfl hS2 (fun wS hS => runs_loadAgg ty32 rfl ((hb1.keep hS (by simp; omega)).at.sub 4 2) (by rfl)) ?_
  refine d_take 15 19 rfl (by kernel_rfl) rfl hS2 (fun wS hS => runs_fieldAddr Tryd.underlying34 rfl ty32 (by decide) rfl) ?_
  refine d_take 16 20 rfl (by kernel_rfl) rfl hS2 (fun wS hS => runs_loadAgg ty32 rfl ((hb1.keep hS (by simp; omega)).at.sub 6 2) (by rfl)) ?_
  refine d_take 17 21 rfl (by kernel_rfl) rfl hS2 (fun wS hS => runs_fieldAddr Tryd.underlying34 rfl ty32 (by decide) rfl) ?_
  refine d_take 18 22 rfl (by kernel_rfl) rfl hS2 (fun wS hS => runs_loadAgg ty32 rfl ((hb1.keep hS (by simp; omega)).at.sub 8 2) (by rfl)) ?_
  refine d_take 19 23 rfl (by kernel_rfl) rfl hS2 (fun wS hS => runs_fieldAddr Tryd.underlying34 rfl ty32 (by decide) rfl) ?_
  refine d_take 20 24 rfl (by kernel_rfl) rfl hS2 (fun wS hS => runs_loadAgg ty32 rfl ((hb1.keep hS (by simp; omega)).at.sub 10 2) (by rfl)) ?_
  refine d_take 21 25 rfl (by kernel_rfl) rfl hS2 (fun wS hS => runs_fieldAddr Tryd.underlying34 rfl ty32 (by decide) rfl) ?_
  refine d_take 22 26 rfl (by kernel_rfl) rfl hS2 (fun wS hS => runs_loadAgg ty32 rfl ((hb1.keep hS (by simp; omega)).at.sub 12 2) (by rfl)) ?_
  refine d_chain 0 (RT wd2 [bw] [5, 75]) [2, 3, 6, 7, 11, 12, 23, 24] [[], [2], [], [3, 6], [], [7, 11], [], [12, 23]] [3, 7, 12, 24] [24] (fun i => match i with | 2 => SV.lit _ _ _ 1 (flatC [nv r.tr]) 32 (by decide) | 3 => SV.eq _ (.pointer (some ⟨bw, 0, none⟩)) | 6 => SV.lit _ _ _ 1 (flatC [.int .i64 r.time]) 3 (by decide) | 7 => SV.eq _ (.pointer (some ⟨bw, 0, none⟩)) | 11 => SV.lit _ _ _ 1 (flatC [.int .i64 (r.event + 1)]) 3 (by decide) | 12 => SV.eq _ (.pointer (some ⟨bw, 0, none⟩)) | 23 => SV.lit _ _ _ 5 (flatC [nv r.am, nv r.dp, nv r.dq, nv r.cp, nv r.cq]) 32 (by decide) | 24 => SV.eq _ (.pointer (some ⟨bw, 0, none⟩)) | _ => SV.any _) (fun c W => ∃ v, WrP wd2 W bw (.slice none 0 0) v (Sp.rowP r c)) #[true, true, true, true, true, true, true, true, true, true, true, true, true, true, true, true, true, true, true, true, true, true, true, true, true] (RT.refl _ _ _ _) (fun _ _ _ h k => h.trans k) ⟨_, WrP.refl hW0⟩ (by kernel_rfl) (by kernel_rfl) (by decide) (by kernel_rfl) (by kernel_rfl) (fun _ h => h.chg) ?_ ?_
  · refine cobl_cons rfl ?_ ?_
    · intro c wo hR hSt hchn
      have hzR := hR.size
      refine wv_nil ?_
      obtain ⟨v, hWr⟩ := hSt
      refine s_lit (xs := [.tmp 5]) Tryd.underlying85 ty32 rfl rfl rfl rfl rfl (by simp [Value.cells, Rw.C]) (by decide) (by decide) ?_
      intro b2' w22 e2_2 z2_2 hb2_2 X2_2
      exact s_nil ⟨RT.of0 X2_2 (by omega), by rw [if_neg (by decide)]; exact ⟨v, hWr.then0 X2_2⟩, fun d hd => by cases hd; exact ⟨_, rfl, _, rfl, hb2_2⟩⟩
    refine cobl_cons rfl ?_ ?_
    · intro c wo hR hSt hchn
      have hzR := hR.size
      refine wv_cons rfl ?_
      rintro _ ⟨b2, rfl, hb2⟩
      refine wv_nil ?_
      obtain rfl : c = 0 := by
        have h := hchn (by decide)
        have hlt := (List.getElem?_eq_some_iff.1 h).1
        simp at hlt
        obtain rfl | rfl | rfl | rfl : c = 0 ∨ c = 1 ∨ c = 2 ∨ c = 3 := by omega
        all_goals first | rfl | (simp at h)
      obtain ⟨v, hWr⟩ := hSt
      refine s_callf (xs := [.tmp 3, .tmp 6]) rfl rfl Tryd.func32 rfl (by kernel_rfl) rfl (wrNum_calls bw b2 v _ [r.tr] 1 _ hWr.wr hb2 rfl (by intro x hx; simp at hx; subst hx; exact hn.tr) (by simp [Sp.rowP])) ?_
      rintro _ w23 ⟨rfl, v', hP⟩
      exact s_nil ⟨hP.rt hWr.wr (by omega) (fun k hk => (hWr.new k hk).resolve_left (by simp [Value.ownBlock])), by rw [if_pos (by decide)]; exact ⟨v', hWr.trans hP⟩, fun d hd => by cases hd; exact ⟨_, rfl, rfl⟩⟩
    refine cobl_cons rfl ?_ ?_
    · intro c wo hR hSt hchn
      have hzR := hR.size
      refine wv_nil ?_
      obtain ⟨v, hWr⟩ := hSt
      refine s_lit (xs := [.tmp 9]) Tryd.underlying60 ty3 rfl rfl rfl rfl rfl (by simp [Value.cells]) (by decide) (by decide) ?_
      intro b6' w26 e2_6 z2_6 hb2_6 X2_6
      exact s_nil ⟨RT.of0 X2_6 (by omega), by rw [if_neg (by decide)]; exact ⟨v, hWr.then0 X2_6⟩, fun d hd => by cases hd; exact ⟨_, rfl, _, rfl, hb2_6⟩⟩
    refine cobl_cons rfl ?_ ?_
    · intro c wo hR hSt hchn
      have hzR := hR.size
      refine wv_cons rfl ?_
      rintro _ rfl
      refine wv_cons rfl ?_
      rintro _ ⟨b6, rfl, hb6⟩
      refine wv_nil ?_
      obtain rfl : c = 1 := by
        have h := hchn (by decide)
        have hlt := (List.getElem?_eq_some_iff.1 h).1
        simp at hlt
        obtain rfl | rfl | rfl | rfl : c = 0 ∨ c = 1 ∨ c = 2 ∨ c = 3 := by omega
        all_goals first | rfl | (simp at h)
      obtain ⟨v, hWr⟩ := hSt
      refine s_callf (xs := [.tmp 7, .const (.int .i64 6), .tmp 10]) rfl rfl Tryd.func33 rfl (by kernel_rfl) rfl (wrInt_calls bw b6 v _ 6 [r.time] 1 _ hWr.wr hb6 rfl (by decide) (by simp [Sp.rowP, numB_len])) ?_
      rintro _ w27 ⟨rfl, v', hP⟩
      exact s_nil ⟨hP.rt hWr.wr (by omega) (fun k hk => (hWr.new k hk).resolve_left (by simp [Value.ownBlock])), by rw [if_pos (by decide)]; exact ⟨v', hWr.trans hP⟩, fun d hd => by cases hd; exact ⟨_, rfl, rfl⟩⟩
    refine cobl_cons rfl ?_ ?_
    · intro c wo hR hSt hchn
      have hzR := hR.size
      refine wv_nil ?_
      obtain ⟨v, hWr⟩ := hSt
      refine s_lit (xs := [.tmp 14]) Tryd.underlying60 ty3 rfl rfl rfl rfl rfl (by simp [Value.cells]) (by decide) (by decide) ?_
      intro b11' w211 e2_11 z2_11 hb2_11 X2_11
      exact s_nil ⟨RT.of0 X2_11 (by omega), by rw [if_neg (by decide)]; exact ⟨v, hWr.then0 X2_11⟩, fun d hd => by cases hd; exact ⟨_, rfl, _, rfl, hb2_11⟩⟩
    refine cobl_cons rfl ?_ ?_
    · intro c wo hR hSt hchn
      have hzR := hR.size
      refine wv_cons rfl ?_
      rintro _ rfl
      refine wv_cons rfl ?_
      rintro _ ⟨b11, rfl, hb11⟩
      refine wv_nil ?_
      obtain rfl : c = 2 := by
        have h := hchn (by decide)
        have hlt := (List.getElem?_eq_some_iff.1 h).1
        simp at hlt
        obtain rfl | rfl | rfl | rfl : c = 0 ∨ c = 1 ∨ c = 2 ∨ c = 3 := by omega
        all_goals first | rfl | (simp at h)
      obtain ⟨v, hWr⟩ := hSt
      refine s_callf (xs := [.tmp 11, .const (.int .i64 2), .tmp 15]) rfl rfl Tryd.func33 rfl (by kernel_rfl) rfl (wrInt_calls bw b11 v _ 2 [r.event + 1] 1 _ hWr.wr hb11 rfl (by decide) (by simp [Sp.rowP, numB_len, intB_len])) ?_
      rintro _ w212 ⟨rfl, v', hP⟩
      exact s_nil ⟨hP.rt hWr.wr (by omega) (fun k hk => (hWr.new k hk).resolve_left (by simp [Value.ownBlock])), by rw [if_pos (by decide)]; exact ⟨v', hWr.trans hP⟩, fun d hd => by cases hd; exact ⟨_, rfl, rfl⟩⟩
    refine cobl_cons rfl ?_ ?_
    · intro c wo hR hSt hchn
      have hzR := hR.size
      refine wv_nil ?_
      obtain ⟨v, hWr⟩ := hSt
      refine s_lit (xs := [.tmp 18, .tmp 20, .tmp 22, .tmp 24, .tmp 26]) Tryd.underlying85 ty32 rfl rfl rfl rfl rfl (by simp [Value.cells, Rw.C]) (by decide) (by decide) ?_
      intro b23' w223 e2_23 z2_23 hb2_23 X2_23
      exact s_nil ⟨RT.of0 X2_23 (by omega), by rw [if_neg (by decide)]; exact ⟨v, hWr.then0 X2_23⟩, fun d hd => by cases hd; exact ⟨_, rfl, _, rfl, hb2_23⟩⟩
    refine cobl_cons rfl ?_ ?_
    · intro c wo hR hSt hchn
      have hzR := hR.size
      refine wv_cons rfl ?_
      rintro _ rfl
      refine wv_cons rfl ?_
      rintro _ ⟨b23, rfl, hb23⟩
      refine wv_nil ?_
      obtain rfl : c = 3 := by
        have h := hchn (by decide)
        have hlt := (List.getElem?_eq_some_iff.1 h).1
        simp at hlt
        obtain rfl | rfl | rfl | rfl : c = 0 ∨ c = 1 ∨ c = 2 ∨ c = 3 := by omega
        all_goals first | rfl | (simp at h)
      obtain ⟨v, hWr⟩ := hSt
      refine s_callf (xs := [.tmp 16, .tmp 27]) rfl rfl Tryd.func32 rfl (by kernel_rfl) rfl (wrNum_calls bw b23 v _ [r.am, r.dp, r.dq, r.cp, r.cq] 5 _ hWr.wr hb23 rfl (by intro x hx; simp at hx; rcases hx with rfl | rfl | rfl | rfl | rfl; exact hn.am; exact hn.dp; exact hn.dq; exact hn.cp; exact hn.cq) (by simp [Sp.rowP, numB_len, intB_len])) ?_
      rintro _ w224 ⟨rfl, v', hP⟩
      exact s_nil ⟨hP.rt hWr.wr (by omega) (fun k hk => (hWr.new k hk).resolve_left (by simp [Value.ownBlock])), by rw [if_pos (by decide)]; exact ⟨v', hWr.trans hP⟩, fun d hd => by cases hd; exact ⟨_, rfl, rfl⟩⟩
    exact cobl_nil
  intro w2c hR2 hSt2
  refine wv_cons rfl ?_
  rintro _ rfl
  refine wv_nil ?_
  replace hS2 := hR2.chg
  obtain ⟨vf, hWr⟩ := hSt2
  refine d_done (by kernel_rfl) ?_
  have hX3 : Chg w w2c [] := (hX.trans hS2).mono (by intro k hk hlt; simp at hk; omega)
  have hz3 := hX3.size
  refine hK5 _ _ ?_
  refine c_seqreg (fun K14 hK14 => ?_)
  refine s_callf (xs := [.tmp 3]) rfl rfl Tryd.func34 rfl (by kernel_rfl) rfl (wrBytes_calls bw vf _ _ hWr.wr (by simp [Sp.rowP, rowB_len])) ?_
  rintro v3 w3 ⟨hown, X3_0⟩
  refine s_val rfl rfl (runs_assign rfl) ?_
  refine s_nil ?_
  refine hK14 _ _ ?_
  refine c_ret ?_
  refine hret _ _ ?_
  rw [show (Sp.rowP r [3, 7, 12, 24].length).length = 104 from rowB_len r] at hown
  exact ends1 (reads_tmp rfl) ⟨own_base hown (by omega), hX3.trans X3_0⟩
end Go.Proofs.YtlkeofjgmegcfaaDoor
