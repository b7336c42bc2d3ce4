/- Part Acc0 of the proofs on this seat. Conditions: none beyond those in the theorems. By an AI agent. -/
import Derived.Test.YtmmijecookbajaaDoorWire2
namespace Go.Proofs.YtmmijecookbajaaDoor
open Go Go.RowKit

/-- An account. -/
structure Ac where
  id : Nm
  ledger : Int
  flags : Int
  dp : Nm
  dq : Nm
  cp : Nm
  cq : Nm
  time : Int
  rows : Int
  root : List Nat
deriving DecidableEq
def Ac.H (r : Ac) : List Value := [.int .u64 (r.id.1 : Int), .int .u64 (r.id.2 : Int), .int .i64 r.ledger, .int .i64 r.flags, .int .u64 (r.dp.1 : Int), .int .u64 (r.dp.2 : Int), .int .u64 (r.dq.1 : Int), .int .u64 (r.dq.2 : Int), .int .u64 (r.cp.1 : Int), .int .u64 (r.cp.2 : Int), .int .u64 (r.cq.1 : Int), .int .u64 (r.cq.2 : Int), .int .i64 r.time, .int .i64 r.rows]
def Ac.C (r : Ac) : List Value := r.H ++ natsC .u8 r.root
def av (r : Ac) : Value := .agg r.C.toArray
/-- Its numbers are numbers of 128 bits, its hash is one. -/
structure Ac.Num (r : Ac) : Prop where
  id : NOk r.id
  dp : NOk r.dp
  dq : NOk r.dq
  cp : NOk r.cp
  cq : NOk r.cq
  root : HOk r.root
theorem Ac.len {r : Ac} (h : r.Num) : r.C.length = 46 := by simp [Ac.C, Ac.H, natsC_length, h.root.1]
theorem Ac.one (r : Ac) : ∀ u ∈ r.C, u.oneCell' = true := by
  intro u hu
  rcases List.mem_append.1 hu with hu | hu
  · simp [Ac.H] at hu; rcases hu with rfl | rfl | rfl | rfl | rfl | rfl | rfl | rfl | rfl | rfl | rfl | rfl | rfl | rfl <;> rfl
  · exact natsC_one _ _ u hu
theorem Ac.root_cells {r : Ac} (h : r.Num) : (r.C.drop 14).take 32 = natsC .u8 r.root := by
  show (natsC .u8 r.root).take 32 = _
  exact List.take_of_length_le (by rw [natsC_length, h.root.1]; omega)
theorem Ac.rootAt {r : Ac} {w : World} {b : Nat} {t : TypeId} (h : Blk w b r.C t) (hn : r.Num) : At w b (0 + 14) (natsC .u8 r.root) := by
  have := h.at.sub 14 32
  rwa [Ac.root_cells hn] at this
/-- As bytes can tell it. -/
structure Ac.Ok (r : Ac) : Prop where
  num : r.Num
  ledger : 0 ≤ r.ledger ∧ r.ledger ≤ 4294967295
  flags : 0 ≤ r.flags ∧ r.flags ≤ 65535
  time : 0 ≤ r.time ∧ r.time ≤ 281474976710655
  rows : 0 ≤ r.rows ∧ r.rows ≤ 281474976710655
def Sp.acB (r : Ac) : List Nat := Sp.numB r.id ++ Sp.intB 4 r.ledger ++ Sp.intB 2 r.flags ++ [r.dp, r.dq, r.cp, r.cq].flatMap Sp.numB ++ [r.time, r.rows].flatMap (Sp.intB 6) ++ r.root
theorem acB_len {r : Ac} (h : r.Num) : (Sp.acB r).length = 130 := by simp only [Sp.acB, List.length_append, numB_len, intB_len, numsB_len, intsB_len, List.length_cons, List.length_nil, h.root.1]
theorem acB_lt {r : Ac} (h : r.Num) : ∀ v ∈ Sp.acB r, v < 256 := by
  intro v hv
  simp only [Sp.acB, List.mem_append, List.mem_flatMap] at hv
  rcases hv with ((((hv | hv) | hv) | ⟨x, _, hv⟩) | ⟨x, _, hv⟩) | hv
  · exact numB_lt _ v hv
  · exact intB_lt _ _ v hv
  · exact intB_lt _ _ v hv
  · exact numB_lt _ v hv
  · exact intB_lt _ _ v hv
  · exact h.root.2 v hv
theorem hash_eq {d : Nat} (w : World) {x y : List Nat} (hx : HOk x) (hy : HOk y) : (Op.equalIn (d + 2) 26 (hv x) (hv y)).run Tryd.prog w = .ok (decide (x = y)) w := by
  have := run_equalIn_ints (P := Tryd.prog) d Tryd.underlying26 Tryd.underlying5 ty5 (x.map Int.ofNat) (y.map Int.ofNat) (by simp [hx.1]) (by simp [hy.1]) w
  rw [← natsC_ints, ← natsC_ints, inj_ofNat] at this
  exact this
theorem acc_eq (w : World) {x y : Ac} (hx : x.Num) (hy : y.Num) : (Op.equalIn 10000 28 (av x) (av y)).run Tryd.prog w = .ok (decide (x = y)) w := by
  have hh : (Op.equalIn 9999 26 (.agg ((x.C.drop 14).take 32).toArray) (.agg ((y.C.drop 14).take 32).toArray)).run Tryd.prog w = .ok (decide (x.root = y.root)) w := by
    rw [Ac.root_cells hx, Ac.root_cells hy]
    exact hash_eq (d := 9997) w hx.root hy.root
  have h := eq_agg (P := Tryd.prog) (w := w) (d := 9999) (t := 28) (xs := x.C.toArray) (ys := y.C.toArray) Tryd.underlying28 (by kernel_rfl)
    (eqF_cons rfl (partA ty24 (i := 0)) (partA ty24 (i := 0)) (num_eq (d := 9997) w x.id y.id)
    (eqF_cons rfl (part1 ty3 (i := 2) rfl) (part1 ty3 (i := 2) rfl) (run_equalIn_int w 9998 _ _ _ _ _ Tryd.underlying3)
    (eqF_cons rfl (part1 ty3 (i := 3) rfl) (part1 ty3 (i := 3) rfl) (run_equalIn_int w 9998 _ _ _ _ _ Tryd.underlying3)
    (eqF_cons rfl (partA ty24 (i := 4)) (partA ty24 (i := 4)) (num_eq (d := 9997) w x.dp y.dp)
    (eqF_cons rfl (partA ty24 (i := 6)) (partA ty24 (i := 6)) (num_eq (d := 9997) w x.dq y.dq)
    (eqF_cons rfl (partA ty24 (i := 8)) (partA ty24 (i := 8)) (num_eq (d := 9997) w x.cp y.cp)
    (eqF_cons rfl (partA ty24 (i := 10)) (partA ty24 (i := 10)) (num_eq (d := 9997) w x.cq y.cq)
    (eqF_cons rfl (part1 ty3 (i := 12) rfl) (part1 ty3 (i := 12) rfl) (run_equalIn_int w 9998 _ _ _ _ _ Tryd.underlying3)
    (eqF_cons rfl (part1 ty3 (i := 13) rfl) (part1 ty3 (i := 13) rfl) (run_equalIn_int w 9998 _ _ _ _ _ Tryd.underlying3)
    (eqF_cons rfl (partA ty26 (i := 14)) (partA ty26 (i := 14)) hh eqF_nil))))))))))
  refine h.trans ?_
  congr 1
  rw [Bool.eq_iff_iff]
  obtain ⟨a1, a2, a3, a4, a5, a6, a7, a8, a9, a10⟩ := x
  obtain ⟨b1, b2, b3, b4, b5, b6, b7, b8, b9, b10⟩ := y
  simp [Ac.mk.injEq]
section
variable {ρ : Env} {w : World} {ty tyy : TypeId} {x y : Operand} {a b : Ac}
theorem runs_acc_eq (hx : ev? ρ x = some (av a)) (hy : ev? ρ y = some (av b)) (ha : a.Num) (hb : b.Num) : Runs Tryd.prog ρ (.binOp .eql 28 x y tyy) ty w (.bool (decide (a = b))) w :=
  runs_agg_eq (by kernel_rfl) hx hy (acc_eq w ha hb)
theorem runs_acc_ne (hx : ev? ρ x = some (av a)) (hy : ev? ρ y = some (av b)) (ha : a.Num) (hb : b.Num) : Runs Tryd.prog ρ (.binOp .neq 28 x y tyy) ty w (.bool (decide (a ≠ b))) w :=
  runs_as (runs_agg_ne (by kernel_rfl) hx hy (acc_eq w ha hb)) (by congr 1; by_cases h : a = b <;> simp [h])
end
/-- What was laid behind c of the calls. -/
def Sp.acP (r : Ac) : Nat → List Nat
  | 0 => []
  | 1 => Sp.numB r.id
  | 2 => Sp.numB r.id ++ Sp.intB 4 r.ledger
  | 3 => Sp.numB r.id ++ Sp.intB 4 r.ledger ++ Sp.intB 2 r.flags
  | 4 => Sp.numB r.id ++ Sp.intB 4 r.ledger ++ Sp.intB 2 r.flags ++ [r.dp, r.dq, r.cp, r.cq].flatMap Sp.numB
  | 5 => Sp.numB r.id ++ Sp.intB 4 r.ledger ++ Sp.intB 2 r.flags ++ [r.dp, r.dq, r.cp, r.cq].flatMap Sp.numB ++ [r.time, r.rows].flatMap (Sp.intB 6)
  | _ => Sp.numB r.id ++ Sp.intB 4 r.ledger ++ Sp.intB 2 r.flags ++ [r.dp, r.dq, r.cp, r.cq].flatMap Sp.numB ++ [r.time, r.rows].flatMap (Sp.intB 6) ++ [r.root].flatten
theorem acP_all (r : Ac) : Sp.acP r 6 = Sp.acB r := by simp [Sp.acP, Sp.acB]
theorem WrP.rt {w0 w w' : World} {bw : Nat} {v v' : Value} {bs bs0 : List Nat} (h : WrP w w' bw v v' bs) (hw : WrV w bw v bs0) (hs : w0.heap.size ≤ w.heap.size) (hn : ∀ k, v.ownBlock = some k → w0.heap.size ≤ k) : RT w0 [bw] [5, 77] w w' :=
  RT.of h.chg hs fun k hk => by
    rcases List.mem_cons.1 hk with rfl | hk
    · refine ⟨.inl (by simp), fun cs t hb => ?_⟩
      have := hb.symm.trans hw.blk
      simp at this
      rw [this.2]; simp
    · obtain ⟨h1, h2, cs, h3⟩ := own_blk hw.own (by simpa using hk)
      refine ⟨.inr (hn k (by simpa using hk)), fun cs' t hb => ?_⟩
      have := hb.symm.trans h3
      simp at this
      rw [this.2]; simp

set_option maxHeartbeats 4000000 in
theorem wireAcc_calls (r : Ac) (w : World) (hn : r.Num) : CallsR Tryd.prog 29 #[av r] w fun v w' => w'.ownsRow w.heap.size 5 1 v 130 (natsC .u8 (Sp.acB r)) ∧ Chg w w' [] := by
  have hX : Chg w w [] := Chg.refl _ _
  refine f_enter (l := [av r]) Tryd.func29 rfl rfl rfl rfl ?_
  intro Qf hnrm hret
  refine c_seqreg (fun K1 hK1 => ?_)
  refine s_box rfl rfl rfl ?_
  intro b1 w1 e0_0 z0_0 hb1 X0_0
  have s0_0_hX := hX.size
  replace hX : Chg w _ [] := (hX.trans X0_0).mono (by intro k hk hlt; simp at hk ⊢ <;> first | omega | grind)
  replace hb1 : Blk w1 b1 (r.C) 28 := hb1
  have hl1 := hb1.lt
  refine s_val rfl rfl (runs_assign rfl) ?_
  refine s_nil ?_
  refine hK1 _ _ ?_
  refine c_seqreg (fun K3 hK3 => ?_)
  refine s_alloc ty77 rfl rfl ?_
  intro bw w2 e1_0 z1_0 hbw X1_0
  have s1_0_hX := hX.size
  have s1_0_hb1 := hb1.lt
  replace hX : Chg w _ [] := (hX.trans X1_0).mono (by intro k hk hlt; simp at hk ⊢ <;> first | omega | grind)
  replace hb1 := hb1.keep X1_0 (by simp)
  replace hbw : Blk w2 bw ([.slice none 0 0]) 77 := hbw
  have hlw := hbw.lt
  refine s_nil ?_
  refine hK3 _ _ ?_
  refine c_seqdraw [] ([bw]) (by kernel_rfl) ?_
  intro K5 hK5 wd2 Xd2 hS2
  replace hX : Chg w _ [] := (hX.trans Xd2).mono (by intro k hk hlt; simp at hk ⊢ <;> first | omega | grind)
  replace hb1 := hb1.keep Xd2 (by simp)
  replace hbw := hbw.keep Xd2 (by simp)
  have zd2 := Xd2.size
  have hW0 : WrV wd2 bw (.slice none 0 0) [] := ⟨hbw, World.ownsRow_nil _ _ _ _⟩
  refine d_take 0 4 rfl (by kernel_rfl) rfl hS2 (fun wS hS => runs_fieldAddr Tryd.underlying28 rfl ty24 (by decide) rfl) ?_
  refine d_take 1 5 rfl (by kernel_rfl) rfl hS2 (fun wS hS => runs_loadAgg ty24 rfl ((hb1.keep hS (by simp; omega)).at.sub 0 2) (by rfl)) ?_
  refine d_take 4 8 rfl (by kernel_rfl) rfl hS2 (fun wS hS => runs_fieldAddr Tryd.underlying28 rfl ty3 (by decide) rfl) ?_
  refine d_take 5 9 rfl (by kernel_rfl) rfl hS2 (fun wS hS => runs_load1 ty3 rfl ((hb1.keep hS (by simp; omega)).cell (o := 2) rfl)) ?_
  refine d_take 8 12 rfl (by kernel_rfl) rfl hS2 (fun wS hS => runs_fieldAddr Tryd.underlying28 rfl ty3 (by decide) rfl) ?_
  refine d_take 9 13 rfl (by kernel_rfl) rfl hS2 (fun wS hS => runs_load1 ty3 rfl ((hb1.keep hS (by simp; omega)).cell (o := 3) rfl)) ?_
  refine d_take 12 16 rfl (by kernel_rfl) rfl hS2 (fun wS hS => runs_fieldAddr Tryd.underlying28 rfl ty24 (by decide) rfl) ?_
  refine d_take 13 17 rfl (by kernel_rfl) rfl hS2 (fun wS hS => runs_loadAgg ty24 rfl ((hb1.keep hS (by simp; omega)).at.sub 4 2) (by rfl)) ?_
  refine d_take 14 18 rfl (by kernel_rfl) rfl hS2 (fun wS hS => runs_fieldAddr Tryd.underlying28 rfl ty24 (by decide) rfl) ?_
  refine d_take 15 19 rfl (by kernel_rfl) rfl hS2 (fun wS hS => runs_loadAgg ty24 rfl ((hb1.keep hS (by simp; omega)).at.sub 6 2) (by rfl)) ?_
  refine d_take 16 20 rfl (by kernel_rfl) rfl hS2 (fun wS hS => runs_fieldAddr Tryd.underlying28 rfl ty24 (by decide) rfl) ?_
  refine d_take 17 21 rfl (by kernel_rfl) rfl hS2 (fun wS hS => runs_loadAgg ty24 rfl ((hb1.keep hS (by simp; omega)).at.sub 8 2) (by rfl)) ?_
  refine d_take 18 22 rfl (by kernel_rfl) rfl hS2 (fun wS hS => runs_fieldAddr Tryd.underlying28 rfl ty24 (by decide) rfl) ?_
  refine d_take 19 23 rfl (by kernel_rfl) rfl hS2 (fun wS hS => runs_loadAgg ty24 rfl ((hb1.keep hS (by simp; omega)).at.sub 10 2) (by rfl)) ?_
  refine d_take 22 26 rfl (by kernel_rfl) rfl hS2 (fun wS hS => runs_fieldAddr Tryd.underlying28 rfl ty3 (by decide) rfl) ?_
  refine d_take 23 27 rfl (by kernel_rfl) rfl hS2 (fun wS hS => runs_load1 ty3 rfl ((hb1.keep hS (by simp; omega)).cell (o := 12) rfl)) ?_
  refine d_take 24 28 rfl (by kernel_rfl) rfl hS2 (fun wS hS => runs_fieldAddr Tryd.underlying28 rfl ty3 (by decide) rfl) ?_
  refine d_take 25 29 rfl (by kernel_rfl) rfl hS2 (fun wS hS => runs_load1 ty3 rfl ((hb1.keep hS (by simp; omega)).cell (o := 13) rfl)) ?_
  refine d_take 28 32 rfl (by kernel_rfl) rfl hS2 (fun wS hS => runs_fieldAddr Tryd.underlying28 rfl ty26 (by decide) rfl) ?_
  refine d_take 29 33 rfl (by kernel_rfl) rfl hS2 (fun wS hS => runs_loadAgg ty26 rfl (Ac.rootAt (hb1.keep hS (by simp; omega)) hn) (by rw [natsC_length, hn.root.1])) ?_
  refine d_chain 0 (RT wd2 [bw] [5, 77]) [2, 3, 6, 7, 10, 11, 20, 21, 26, 27, 30, 31] [[], [2], [], [3, 6], [], [7, 10], [], [11, 20], [], [21, 26], [], [27, 30]] [3, 7, 11, 21, 27, 31] [31] (fun i => match i with | 2 => SV.lit _ _ _ 1 (flatC [nv r.id]) 24 (by decide) | 3 => SV.eq _ (.pointer (some ⟨bw, 0, none⟩)) | 6 => SV.lit _ _ _ 1 (flatC [.int .i64 r.ledger]) 3 (by decide) | 7 => SV.eq _ (.pointer (some ⟨bw, 0, none⟩)) | 10 => SV.lit _ _ _ 1 (flatC [.int .i64 r.flags]) 3 (by decide) | 11 => SV.eq _ (.pointer (some ⟨bw, 0, none⟩)) | 20 => SV.lit _ _ _ 4 (flatC [nv r.dp, nv r.dq, nv r.cp, nv r.cq]) 24 (by decide) | 21 => SV.eq _ (.pointer (some ⟨bw, 0, none⟩)) | 26 => SV.lit _ _ _ 2 (flatC [.int .i64 r.time, .int .i64 r.rows]) 3 (by decide) | 27 => SV.eq _ (.pointer (some ⟨bw, 0, none⟩)) | 30 => SV.lit _ _ _ 1 (flatC [hv r.root]) 26 (by decide) | 31 => SV.eq _ (.pointer (some ⟨bw, 0, none⟩)) | _ => SV.any _) (fun c W => ∃ v, WrP wd2 W bw (.slice none 0 0) v (Sp.acP r c)) #[true, true, true, true, true, true, true, true, true, true, true, true, true, true, true, true, true, true, true, true, true, true, true, true, true, true, true, true, true, true, true, true] (RT.refl _ _ _ _) (fun _ _ _ h k => h.trans k) ⟨_, WrP.refl hW0⟩ (by kernel_rfl) (by kernel_rfl) (by decide) (by kernel_rfl) (by kernel_rfl) (fun _ h => h.chg) ?_ ?_
  · refine cobl_cons rfl ?_ ?_
    · intro c wo hR hSt hchn
      have hzR := hR.size
      refine wv_nil ?_
      obtain ⟨v, hWr⟩ := hSt
      refine s_lit (xs := [.tmp 5]) Tryd.underlying85 ty24 rfl rfl rfl rfl rfl (by simp [Value.cells, Ac.C, Ac.H]) (by decide) (by decide) ?_
      intro b2' w22 e2_2 z2_2 hb2_2 X2_2
      exact s_nil ⟨RT.of0 X2_2 (by omega), by rw [if_neg (by decide)]; exact ⟨v, hWr.then0 X2_2⟩, fun d hd => by cases hd; exact ⟨_, rfl, _, rfl, hb2_2⟩⟩
    refine cobl_cons rfl ?_ ?_
    · intro c wo hR hSt hchn
      have hzR := hR.size
      refine wv_cons rfl ?_
      rintro _ ⟨b2, rfl, hb2⟩
      refine wv_nil ?_
      obtain rfl : c = 0 := by
        have h := hchn (by decide)
        have hlt := (List.getElem?_eq_some_iff.1 h).1
        simp at hlt
        obtain rfl | rfl | rfl | rfl | rfl | rfl : c = 0 ∨ c = 1 ∨ c = 2 ∨ c = 3 ∨ c = 4 ∨ c = 5 := by omega
        all_goals first | rfl | (simp at h)
      obtain ⟨v, hWr⟩ := hSt
      refine s_callf (xs := [.tmp 3, .tmp 6]) rfl rfl Tryd.func31 rfl (by kernel_rfl) rfl (wrNum_calls bw b2 v _ [r.id] 1 _ hWr.wr hb2 rfl (by intro x hx; simp at hx; subst hx; exact hn.id) (by simp [Sp.acP])) ?_
      rintro _ w23 ⟨rfl, v', hP⟩
      exact s_nil ⟨hP.rt hWr.wr (by omega) (fun k hk => (hWr.new k hk).resolve_left (by simp [Value.ownBlock])), by rw [if_pos (by decide)]; exact ⟨v', hWr.trans hP⟩, fun d hd => by cases hd; exact ⟨_, rfl, rfl⟩⟩
    refine cobl_cons rfl ?_ ?_
    · intro c wo hR hSt hchn
      have hzR := hR.size
      refine wv_nil ?_
      obtain ⟨v, hWr⟩ := hSt
      refine s_lit (xs := [.tmp 9]) Tryd.underlying87 ty3 rfl rfl rfl rfl rfl (by simp [Value.cells, Ac.C, Ac.H]) (by decide) (by decide) ?_
      intro b6' w26 e2_6 z2_6 hb2_6 X2_6
      exact s_nil ⟨RT.of0 X2_6 (by omega), by rw [if_neg (by decide)]; exact ⟨v, hWr.then0 X2_6⟩, fun d hd => by cases hd; exact ⟨_, rfl, _, rfl, hb2_6⟩⟩
    refine cobl_cons rfl ?_ ?_
    · intro c wo hR hSt hchn
      have hzR := hR.size
      refine wv_cons rfl ?_
      rintro _ rfl
      refine wv_cons rfl ?_
      rintro _ ⟨b6, rfl, hb6⟩
      refine wv_nil ?_
      obtain rfl : c = 1 := by
        have h := hchn (by decide)
        have hlt := (List.getElem?_eq_some_iff.1 h).1
        simp at hlt
        obtain rfl | rfl | rfl | rfl | rfl | rfl : c = 0 ∨ c = 1 ∨ c = 2 ∨ c = 3 ∨ c = 4 ∨ c = 5 := by omega
        all_goals first | rfl | (simp at h)
      obtain ⟨v, hWr⟩ := hSt
      refine s_callf (xs := [.tmp 7, .const (.int .i64 4), .tmp 10]) rfl rfl Tryd.func32 rfl (by kernel_rfl) rfl (wrInt_calls bw b6 v _ 4 [r.ledger] 1 _ hWr.wr hb6 rfl (by decide) (by simp [Sp.acP, numB_len, intB_len])) ?_
      rintro _ w27 ⟨rfl, v', hP⟩
      exact s_nil ⟨hP.rt hWr.wr (by omega) (fun k hk => (hWr.new k hk).resolve_left (by simp [Value.ownBlock])), by rw [if_pos (by decide)]; exact ⟨v', hWr.trans hP⟩, fun d hd => by cases hd; exact ⟨_, rfl, rfl⟩⟩
    refine cobl_cons rfl ?_ ?_
    · intro c wo hR hSt hchn
      have hzR := hR.size
      refine wv_nil ?_
      obtain ⟨v, hWr⟩ := hSt
      refine s_lit (xs := [.tmp 13]) Tryd.underlying87 ty3 rfl rfl rfl rfl rfl (by simp [Value.cells, Ac.C, Ac.H]) (by decide) (by decide) ?_
      intro b10' w210 e2_10 z2_10 hb2_10 X2_10
      exact s_nil ⟨RT.of0 X2_10 (by omega), by rw [if_neg (by decide)]; exact ⟨v, hWr.then0 X2_10⟩, fun d hd => by cases hd; exact ⟨_, rfl, _, rfl, hb2_10⟩⟩
    refine cobl_cons rfl ?_ ?_
    · intro c wo hR hSt hchn
      have hzR := hR.size
      refine wv_cons rfl ?_
      rintro _ rfl
      refine wv_cons rfl ?_
      rintro _ ⟨b10, rfl, hb10⟩
      refine wv_nil ?_
      obtain rfl : c = 2 := by
        have h := hchn (by decide)
        have hlt := (List.getElem?_eq_some_iff.1 h).1
        simp at hlt
        obtain rfl | rfl | rfl | rfl | rfl | rfl : c = 0 ∨ c = 1 ∨ c = 2 ∨ c = 3 ∨ c = 4 ∨ c = 5 := by omega
        all_goals first | rfl | (simp at h)
      obtain ⟨v, hWr⟩ := hSt
      refine s_callf (xs := [.tmp 11, .const (.int .i64 2), .tmp 14]) rfl rfl Tryd.func32 rfl (by kernel_rfl) rfl (wrInt_calls bw b10 v _ 2 [r.flags] 1 _ hWr.wr hb10 rfl (by decide) (by simp [Sp.acP, numB_len, intB_len])) ?_
      rintro _ w211 ⟨rfl, v', hP⟩
      exact s_nil ⟨hP.rt hWr.wr (by omega) (fun k hk => (hWr.new k hk).resolve_left (by simp [Value.ownBlock])), by rw [if_pos (by decide)]; exact ⟨v', hWr.trans hP⟩, fun d hd => by cases hd; exact ⟨_, rfl, rfl⟩⟩
    refine cobl_cons rfl ?_ ?_
    · intro c wo hR hSt hchn
      have hzR := hR.size
      refine wv_nil ?_
      obtain ⟨v, hWr⟩ := hSt
      refine s_lit (xs := [.tmp 17, .tmp 19, .tmp 21, .tmp 23]) Tryd.underlying85 ty24 rfl rfl rfl rfl rfl (by simp [Value.cells, Ac.C, Ac.H]) (by decide) (by decide) ?_
      intro b20' w220 e2_20 z2_20 hb2_20 X2_20
      exact s_nil ⟨RT.of0 X2_20 (by omega), by rw [if_neg (by decide)]; exact ⟨v, hWr.then0 X2_20⟩, fun d hd => by cases hd; exact ⟨_, rfl, _, rfl, hb2_20⟩⟩
    refine cobl_cons rfl ?_ ?_
    · intro c wo hR hSt hchn
      have hzR := hR.size
      refine wv_cons rfl ?_
      rintro _ rfl
      refine wv_cons rfl ?_
      rintro _ ⟨b20, rfl, hb20⟩
      refine wv_nil ?_
      obtain rfl : c = 3 := by
        have h := hchn (by decide)
        have hlt := (List.getElem?_eq_some_iff.1 h).1
        simp at hlt
        obtain rfl | rfl | rfl | rfl | rfl | rfl : c = 0 ∨ c = 1 ∨ c = 2 ∨ c = 3 ∨ c = 4 ∨ c = 5 := by omega
        all_goals first | rfl | (simp at h)
      obtain ⟨v, hWr⟩ := hSt
      refine s_callf (xs := [.tmp 15, .tmp 24]) rfl rfl Tryd.func31 rfl (by kernel_rfl) rfl (wrNum_calls bw b20 v _ [r.dp, r.dq, r.cp, r.cq] 4 _ hWr.wr hb20 rfl (by intro x hx; simp at hx; rcases hx with rfl | rfl | rfl | rfl; exact hn.dp; exact hn.dq; exact hn.cp; exact hn.cq) (by simp [Sp.acP, numB_len, intB_len])) ?_
      rintro _ w221 ⟨rfl, v', hP⟩
      exact s_nil ⟨hP.rt hWr.wr (by omega) (fun k hk => (hWr.new k hk).resolve_left (by simp [Value.ownBlock])), by rw [if_pos (by decide)]; exact ⟨v', hWr.trans hP⟩, fun d hd => by cases hd; exact ⟨_, rfl, rfl⟩⟩
    refine cobl_cons rfl ?_ ?_
    · intro c wo hR hSt hchn
      have hzR := hR.size
      refine wv_nil ?_
      obtain ⟨v, hWr⟩ := hSt
      refine s_lit (xs := [.tmp 27, .tmp 29]) Tryd.underlying87 ty3 rfl rfl rfl rfl rfl (by simp [Value.cells, Ac.C, Ac.H]) (by decide) (by decide) ?_
      intro b26' w226 e2_26 z2_26 hb2_26 X2_26
      exact s_nil ⟨RT.of0 X2_26 (by omega), by rw [if_neg (by decide)]; exact ⟨v, hWr.then0 X2_26⟩, fun d hd => by cases hd; exact ⟨_, rfl, _, rfl, hb2_26⟩⟩
    refine cobl_cons rfl ?_ ?_
    · intro c wo hR hSt hchn
      have hzR := hR.size
      refine wv_cons rfl ?_
      rintro _ rfl
      refine wv_cons rfl ?_
      rintro _ ⟨b26, rfl, hb26⟩
      refine wv_nil ?_
      obtain rfl : c = 4 := by
        have h := hchn (by decide)
        have hlt := (List.getElem?_eq_some_iff.1 h).1
        simp at hlt
        obtain rfl | rfl | rfl | rfl | rfl | rfl : c = 0 ∨ c = 1 ∨ c = 2 ∨ c = 3 ∨ c = 4 ∨ c = 5 := by omega
        all_goals first | rfl | (simp at h)
      obtain ⟨v, hWr⟩ := hSt
      refine s_callf (xs := [.tmp 25, .const (.int .i64 6), .tmp 30]) rfl rfl Tryd.func32 rfl (by kernel_rfl) rfl (wrInt_calls bw b26 v _ 6 [r.time, r.rows] 2 _ hWr.wr hb26 rfl (by decide) (by simp [Sp.acP, numB_len, intB_len])) ?_
      rintro _ w227 ⟨rfl, v', hP⟩
      exact s_nil ⟨hP.rt hWr.wr (by omega) (fun k hk => (hWr.new k hk).resolve_left (by simp [Value.ownBlock])), by rw [if_pos (by decide)]; exact ⟨v', hWr.trans hP⟩, fun d hd => by cases hd; exact ⟨_, rfl, rfl⟩⟩
    refine cobl_cons rfl ?_ ?_
    · intro c wo hR hSt hchn
      have hzR := hR.size
      refine wv_nil ?_
      obtain ⟨v, hWr⟩ := hSt
      refine s_lit (xs := [.tmp 33]) Tryd.underlying31 ty26 rfl rfl rfl rfl rfl (hv_sz (l := [r.root]) (by simpa using hn.root)) (by decide) (by decide) ?_
      intro b30' w230 e2_30 z2_30 hb2_30 X2_30
      exact s_nil ⟨RT.of0 X2_30 (by omega), by rw [if_neg (by decide)]; exact ⟨v, hWr.then0 X2_30⟩, fun d hd => by cases hd; exact ⟨_, rfl, _, rfl, hb2_30⟩⟩
    refine cobl_cons rfl ?_ ?_
    · intro c wo hR hSt hchn
      have hzR := hR.size
      refine wv_cons rfl ?_
      rintro _ rfl
      refine wv_cons rfl ?_
      rintro _ ⟨b30, rfl, hb30⟩
      refine wv_nil ?_
      obtain rfl : c = 5 := by
        have h := hchn (by decide)
        have hlt := (List.getElem?_eq_some_iff.1 h).1
        simp at hlt
        obtain rfl | rfl | rfl | rfl | rfl | rfl : c = 0 ∨ c = 1 ∨ c = 2 ∨ c = 3 ∨ c = 4 ∨ c = 5 := by omega
        all_goals first | rfl | (simp at h)
      obtain ⟨v, hWr⟩ := hSt
      refine s_callf (xs := [.tmp 31, .tmp 34]) rfl rfl Tryd.func33 rfl (by kernel_rfl) rfl (wrHash_calls bw b30 v _ [r.root] 1 _ hWr.wr hb30 rfl (by simpa using hn.root) (by simp [Sp.acP, numB_len, intB_len]) (by decide)) ?_
      rintro _ w231 ⟨rfl, v', hP⟩
      exact s_nil ⟨hP.rt hWr.wr (by omega) (fun k hk => (hWr.new k hk).resolve_left (by simp [Value.ownBlock])), by rw [if_pos (by decide)]; exact ⟨v', hWr.trans hP⟩, fun d hd => by cases hd; exact ⟨_, rfl, rfl⟩⟩
    exact cobl_nil
  intro w2c hR2 hSt2
  refine wv_cons rfl ?_
  rintro _ rfl
  refine wv_nil ?_
  replace hS2 := hR2.chg
  obtain ⟨vf, hWr⟩ := hSt2
  refine d_done (by kernel_rfl) ?_
  have hX3 : Chg w w2c [] := (hX.trans hS2).mono (by intro k hk hlt; simp at hk; omega)
  have hz3 := hX3.size
  refine hK5 _ _ ?_
  refine c_seqreg (fun K18 hK18 => ?_)
  refine s_callf (xs := [.tmp 3]) rfl rfl Tryd.func34 rfl (by kernel_rfl) rfl (wrBytes_calls bw vf _ _ hWr.wr (by rw [show ([3, 7, 11, 21, 27, 31] : List Nat).length = 6 from rfl, acP_all, acB_len hn]; decide)) ?_
  rintro v3 w3 ⟨hown, X3_0⟩
  refine s_val rfl rfl (runs_assign rfl) ?_
  refine s_nil ?_
  refine hK18 _ _ ?_
  refine c_ret ?_
  refine hret _ _ ?_
  rw [show ([3, 7, 11, 21, 27, 31] : List Nat).length = 6 from rfl, acP_all, acB_len hn] at hown
  exact ends1 (reads_tmp rfl) ⟨own_base hown (by omega), hX3.trans X3_0⟩
end Go.Proofs.YtmmijecookbajaaDoor
