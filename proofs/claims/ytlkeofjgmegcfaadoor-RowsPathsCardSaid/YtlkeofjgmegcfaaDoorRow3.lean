/- Part Row3 of the proofs on this seat. Conditions: none beyond those in the theorems. By an AI agent. -/
import Derived.Test.YtlkeofjgmegcfaaDoorRow2
namespace Go.Proofs.YtlkeofjgmegcfaaDoor
open Go Go.RowKit

def Sp.leaves (rs : List Rw) : List (List Nat) := rs.map Sp.rleaf
theorem leavesR_ok (rs : List Rw) : ∀ x ∈ Sp.leaves rs, HOk x := fun x hx => by obtain ⟨r, _, rfl⟩ := List.mem_map.1 hx; exact rleaf_ok r
/-- A row, as the law 'list' makes it. -/
def Sp.tAt (ls : List Rw) (i : Nat) : Nat := ((ls.take i).map fun r => 1 + land64 r.time 3).sum
def Sp.mkAt (ls : List Rw) (i : Nat) (r : Rw) : Rw := { r with time := (Sp.tAt ls (i + 1) : Int), event := (land64 r.event 255 : Int) }
def Sp.mkR (ls : List Rw) : List Rw := (ls.zipIdx).map fun p => Sp.mkAt ls p.2 p.1
theorem mkR_len (ls : List Rw) : (Sp.mkR ls).length = ls.length := by simp [Sp.mkR]
theorem mkR_get (ls : List Rw) {i : Nat} {r : Rw} (h : ls[i]? = some r) : (Sp.mkR ls)[i]? = some (Sp.mkAt ls i r) := by
  simp [Sp.mkR, List.getElem?_zipIdx, h]
theorem tAt_succ (ls : List Rw) {i : Nat} {r : Rw} (h : ls[i]? = some r) : Sp.tAt ls (i + 1) = Sp.tAt ls i + (1 + land64 r.time 3) := by
  simp [Sp.tAt, List.take_add_one, h]
theorem tAt_le (ls : List Rw) : ∀ i, i ≤ ls.length → i ≤ Sp.tAt ls i ∧ Sp.tAt ls i ≤ 4 * i := by
  intro i
  induction i with
  | zero => intro _; simp [Sp.tAt]
  | succ i ih =>
    intro h
    have := ih (by omega)
    rw [tAt_succ ls (List.getElem?_eq_getElem (show i < ls.length by omega))]
    have := land64_le (a := (ls[i]'(by omega)).time) (m := 3) (by decide)
    omega
theorem tAt_mono (ls : List Rw) : ∀ j i, i < j → j ≤ ls.length → Sp.tAt ls i < Sp.tAt ls j := by
  intro j
  induction j with
  | zero => intro i h; omega
  | succ j ih =>
    intro i h hj
    rw [tAt_succ ls (List.getElem?_eq_getElem (show j < ls.length by omega))]
    by_cases e : i = j
    · subst e; omega
    · have := ih i (by omega) (by omega); omega
theorem mkAt_ok {ls : List Rw} {i : Nat} {r : Rw} (hr : r.Num) (hi : i < ls.length) (hn : ls.length ≤ 1000) : (Sp.mkAt ls i r).Ok := by
  have := tAt_le ls (i + 1) (by omega)
  have := land64_le (a := r.event) (m := 255) (by decide)
  exact ⟨⟨hr.tr, hr.am, hr.dp, hr.dq, hr.cp, hr.cq⟩, by simp only [Sp.mkAt]; omega, by simp only [Sp.mkAt]; omega⟩
theorem mkR_time (ls : List Rw) {i : Nat} {r : Rw} (h : (Sp.mkR ls)[i]? = some r) : r.time = (Sp.tAt ls (i + 1) : Int) := by
  have hi : i < ls.length := by have := (List.getElem?_eq_some_iff.1 h).1; rwa [mkR_len] at this
  rw [mkR_get ls (List.getElem?_eq_getElem hi)] at h
  cases h; rfl

/-- Rows that came in. -/
structure RowsR (w : World) (a : Option Addr) (n c : Nat) (ls : List Rw) : Prop where
  rd : SlR w 14 a n c (ls.flatMap Rw.C)
  len : ls.length = n
  num : ∀ r ∈ ls, r.Num
theorem RowsR.grow {w w' : World} {a : Option Addr} {n c : Nat} {ls : List Rw} (h : RowsR w a n c ls) (x : Chg w w' []) : RowsR w' a n c ls := ⟨h.rd.grow x, h.len, h.num⟩
set_option maxHeartbeats 1000000 in
theorem list_calls (B : Nat) (ls : List Rw) (a : Option Addr) (n c : Nat) (w : World) (hG : GH B w) (hBw : B ≤ w.heap.size) (hR : RowsR w a n c ls) (hn : n ≤ 1000) :
    CallsR Tryd.prog 10 #[.slice a n c] w fun v w' => ∃ bx v1 v2, v = .pointer (some ⟨bx, 0, none⟩) ∧ LsV w' w.heap.size w'.heap.size bx v1 v2 (Sp.mkR ls) ∧ Chg w w' [] ∧ GH B w' := by
  have hX : Chg w w [] := Chg.refl _ _
  have hlen := hR.len
  refine f_enter (l := [.slice a n c]) Tryd.func10 rfl rfl rfl rfl ?_
  intro Qf hnrm hret
  refine c_seqreg (fun K1 hK1 => ?_)
  refine s_val rfl rfl (runs_assign rfl) ?_
  refine s_nil ?_
  refine hK1 _ _ ?_
  refine c_seqreg (fun K2 hK2 => ?_)
  refine s_val rfl rfl (runs_buildv (v := .agg #[.slice none 0 0, .slice none 0 0]) [] rfl (by kernel_rfl)) ?_
  refine s_box rfl rfl rfl ?_
  intro bx w1 e1_1 z1_1 hbx X1_1
  have s1_1_hX := hX.size
  replace hG := hG.keep X1_1 (by simp)
  replace hX : Chg w _ [] := (hX.trans X1_1).mono (by intro k hk hlt; simp at hk ⊢ <;> first | omega | grind)
  have hlx := hbx.lt
  have hL := ls_new (lo := w.heap.size) hbx (by omega)
  refine s_val rfl rfl (runs_assign rfl) ?_
  refine s_nil ?_
  have hzX1 := hX.size
  refine hK2 _ _ ?_
  refine c_seqreg (fun K4 hK4 => ?_)
  refine s_val rfl rfl (runs_assign rfl) ?_
  refine s_nil ?_
  refine hK4 _ _ ?_
  refine c_seq (fun K5 hK5 => ?_)
  refine c_seqreg (fun K6 hK6 => ?_)
  refine s_val rfl rfl (runs_move rfl) ?_
  refine s_val rfl rfl (runs_len_slice Tryd.underlying22 rfl) ?_
  refine s_val rfl rfl (runs_move rfl) ?_
  refine s_nil ?_
  refine hK6 _ _ ?_
  refine c_block ?_
  refine c_loop (σ := Nat) (fun i => [(11, .int .i64 (i : Int)), (10, .int .i64 (n : Int)), (9, .slice a n c), (4, .int .i64 (Sp.tAt ls i : Int)), (3, .pointer (some ⟨bx, 0, none⟩))]) (fun i w' => i ≤ n ∧ GH B w' ∧ Chg w w' [] ∧ ∃ hi v1 v2, LsV w' w.heap.size hi bx v1 v2 ((Sp.mkR ls).take i)) (fun i => n - i) 0 ⟨rfl, rfl, rfl, rfl, rfl, trivial⟩ ⟨Nat.zero_le _, hG, hX, _, _, _, by simpa using hL⟩ ?_
  rintro i wi ⟨hi', hG, hX, hi, v1, v2, hL⟩
  have hzX := hX.size
  have htop := hL.top
  have hrg := hL.rng
  refine c_seqreg (fun K7 hK7 => ?_)
  refine s_val rfl rfl (runs_lt rfl rfl) ?_
  refine s_nil ?_
  refine hK7 _ _ ?_
  refine c_seq (fun K8 hK8 => ?_)
  refine c_dec rfl (fun hin => ?_) (fun hin => ?_)
  · obtain ⟨r, hr⟩ : ∃ r, ls[i]? = some r := ⟨_, List.getElem?_eq_getElem (by omega)⟩
    have hR' := (hR.grow hX).rd
    obtain ⟨ba, oa, rfl⟩ := hR'.some_ (by omega)
    have hat := rows_elem hR' hr
    have hrn := hR.num r (List.mem_of_getElem? hr)
    have hts := tAt_succ ls hr
    have htl := tAt_le ls i (by omega)
    have hl3 := land64_le (a := r.time) (m := 3) (by decide)
    refine c_skip ?_
    refine hK8 _ _ ?_
    refine c_seq (fun K9 hK9 => ?_)
    refine c_block ?_
    refine c_seqreg (fun K10 hK10 => ?_)
    refine s_val rfl rfl (runs_index_slice (i) Tryd.underlying22 ty34 rfl rfl (by omega) (by omega)) ?_
    refine s_val rfl rfl (runs_loadAgg ty34 rfl hat (Rw.len r)) ?_
    refine s_alloc ty34 rfl rfl ?_
    intro b6 w52 e5_2 z5_2 hb6 X5_2
    have s5_2_hX := hX.size
    replace hG := hG.keep X5_2 (by simp)
    replace hX : Chg w _ [] := (hX.trans X5_2).mono (by intro k hk hlt; simp at hk ⊢ <;> first | omega | grind)
    replace hL := hL.keep X5_2 (by simp)
    refine s_storeAll ty34 rfl rfl rfl hb6 (Rw.len r) rfl (Rw.one r) ?_
    intro w53 z5_3 h5_3 X5_3
    replace hG := hG.keep X5_3 (by simp; omega)
    replace hX : Chg w _ [] := (hX.trans X5_3).mono (by intro k hk hlt; simp at hk ⊢ <;> first | omega | grind)
    replace hL := hL.keep X5_3 (by simp; omega)
    replace hb6 := h5_3
    refine s_nil ?_
    refine hK10 _ _ ?_
    refine c_seqreg (fun K13 hK13 => ?_)
    refine s_val rfl rfl (runs_move rfl) ?_
    refine s_val rfl rfl (runs_fieldAddr Tryd.underlying34 rfl ty3 (by decide) rfl) ?_
    refine s_val rfl rfl (runs_load1 ty3 rfl (hb6.cell (o := 2) rfl)) ?_
    refine s_val rfl rfl (runs_and64 3 rfl (by decide)) ?_
    refine s_val rfl rfl (runs_as (v' := .int .i64 ((1 + land64 r.time 3 : Nat) : Int)) (runs_add64 rfl rfl (by omega)) (congrArg (Value.int .i64) (by omega))) ?_
    refine s_val rfl rfl (runs_as (v' := .int .i64 (Sp.tAt ls (i + 1) : Int)) (runs_add64 rfl rfl (by omega)) (congrArg (Value.int .i64) (by omega))) ?_
    refine s_val rfl rfl (runs_assign rfl) ?_
    refine s_nil ?_
    refine hK13 _ _ ?_
    refine c_seqreg (fun K14 hK14 => ?_)
    refine s_val rfl rfl (runs_move rfl) ?_
    refine s_val rfl rfl (runs_fieldAddr Tryd.underlying34 rfl ty3 (by decide) rfl) ?_
    refine s_val rfl rfl (runs_load1 ty3 rfl (hb6.cell (o := 3) rfl)) ?_
    refine s_val rfl rfl (runs_and64 255 rfl (by decide)) ?_
    refine s_val rfl rfl (runs_fieldAddr Tryd.underlying34 rfl ty3 (by decide) rfl) ?_
    refine s_store1 ty3 rfl rfl rfl hb6 (by rfl) (by simp [Rw.C]) ?_
    intro w75 z7_5 h7_5 X7_5
    replace hG := hG.keep X7_5 (by simp; omega)
    replace hX : Chg w _ [] := (hX.trans X7_5).mono (by intro k hk hlt; simp at hk ⊢ <;> first | omega | grind)
    replace hL := hL.keep X7_5 (by simp; omega)
    replace hb6 := h7_5
    refine s_val rfl rfl (runs_fieldAddr Tryd.underlying34 rfl ty3 (by decide) rfl) ?_
    refine s_store1 ty3 rfl rfl rfl hb6 (by rfl) (by simp [Rw.C]) ?_
    intro w77 z7_7 h7_7 X7_7
    replace hG := hG.keep X7_7 (by simp; omega)
    replace hX : Chg w _ [] := (hX.trans X7_7).mono (by intro k hk hlt; simp at hk ⊢ <;> first | omega | grind)
    replace hL := hL.keep X7_7 (by simp; omega)
    replace hb6 := h7_7
    refine s_nil ?_
    replace hb6 : Blk w77 b6 (Sp.mkAt ls i r).C 34 := hb6
    have hmok := mkAt_ok (ls := ls) (i := i) hrn (by omega) (by omega)
    have hzX7 := hX.size
    refine hK14 _ _ ?_
    refine c_reg ?_
    refine s_val rfl rfl (runs_move rfl) ?_
    refine s_val rfl rfl (runs_loadAgg ty34 rfl hb6.at (Rw.len _)) ?_
    refine s_callf (xs := [.tmp 27, .tmp 28]) rfl rfl Tryd.func18 rfl (by kernel_rfl) rfl (add_calls B w.heap.size hi bx v1 v2 _ (Sp.mkAt ls i r) _ hL hG hBw hmok (by rw [List.length_take]; omega)) ?_
    rintro vz w8 ⟨u1, u2, hL', X8_2, hG'⟩
    replace hX : Chg w _ [] := (hX.trans X8_2).mono (by intro k hk hlt; have := hrg k (by simpa using hk); omega)
    have zs8_2 := X8_2.size
    have hL := hL'
    have hG := hG'
    refine s_nil ?_
    refine hK9 _ _ ?_
    refine c_reg ?_
    refine s_val rfl rfl (runs_add64 rfl rfl (by omega)) ?_
    refine s_val rfl rfl (runs_move rfl) ?_
    refine s_nil ?_
    dsimp only [Post.setN]
    exact ⟨i + 1, ⟨rfl, rfl, rfl, rfl, rfl, trivial⟩, ⟨by omega, hG, hX, _, u1, u2, by rw [List.take_add_one, mkR_get ls hr]; exact hL⟩, by omega⟩
  · refine c_exit ?_
    refine hK5 _ _ ?_
    refine c_seqreg (fun K18 hK18 => ?_)
    refine s_val rfl rfl (runs_move rfl) ?_
    refine s_val rfl rfl (runs_assign rfl) ?_
    refine s_nil ?_
    refine hK18 _ _ ?_
    refine c_ret ?_
    refine hret _ _ ?_
    obtain rfl : i = n := by omega
    rw [List.take_of_length_le (by rw [mkR_len]; omega)] at hL
    exact ends1 (reads_tmp rfl) ⟨bx, v1, v2, rfl, hL.hi, hX, hG⟩

set_option maxHeartbeats 1000000 in
theorem lsRoot0 {B : Nat} {w : World} {lo hi bx : Nat} {v1 v2 : Value} {rs : List Rw} (hL : LsV w lo hi bx v1 v2 rs) (hG : GH B w) (hB : B ≤ w.heap.size) (hn : rs.length ≤ 1000) :
    CallsR Tryd.prog 17 #[.pointer (some ⟨bx, 0, none⟩), .pointer none] w fun v w' => v = hv (Sp.root (Sp.leaves rs)) ∧ Chg w w' [] := by
  have hX : Chg w w [] := Chg.refl _ _
  have hro := root_len _ (leavesR_ok rs)
  obtain ⟨a1, c1, rfl, _, _⟩ := own_reads hL.own1
  refine f_enter (l := [.pointer (some ⟨bx, 0, none⟩), .pointer none]) Tryd.func17 rfl rfl rfl rfl ?_
  intro Qf hnrm hret
  refine c_seqreg (fun K1 hK1 => ?_)
  refine s_alloc ty43 rfl rfl ?_
  intro b4 w1 e0_0 z0_0 hb4 X0_0
  have s0_0_hX := hX.size
  replace hG := hG.keep X0_0 (by simp)
  replace hL := hL.keep X0_0 (by simp)
  replace hX : Chg w _ [] := (hX.trans X0_0).mono (by intro k hk hlt; simp at hk ⊢ <;> first | omega | grind)
  have hl4 := hb4.lt
  have hzX := hX.size
  refine s_nil ?_
  refine hK1 _ _ ?_
  refine c_seq (fun K3 hK3 => ?_)
  refine c_seqreg (fun K4 hK4 => ?_)
  refine s_val rfl rfl (runs_move rfl) ?_
  refine s_val rfl rfl (runs_nilCheck rfl) ?_
  refine s_val rfl rfl (runs_fieldAddr Tryd.underlying53 rfl ty22 (by decide) rfl) ?_
  refine s_val rfl rfl (runs_load1 ty22 rfl (hL.blk.cell (o := 0) rfl)) ?_
  refine s_val rfl rfl (runs_len_slice Tryd.underlying22 rfl) ?_
  refine s_val rfl rfl (runs_move rfl) ?_
  refine s_nil ?_
  refine hK4 _ _ ?_
  refine c_block ?_
  refine c_loop (σ := Nat) (fun i => [(12, .int .i64 (i : Int)), (11, .int .i64 (rs.length : Int)), (10, .slice a1 rs.length c1), (1, .pointer none), (0, .pointer (some ⟨bx, 0, none⟩)), (4, .pointer (some ⟨b4, 0, none⟩))]) (fun i w' => i ≤ rs.length ∧ GH B w' ∧ LsV w' lo hi bx (.slice a1 rs.length c1) v2 rs ∧ Blk w' b4 (List.replicate 32 (.int .u8 0)) 43 ∧ Chg w w' [] ∧ w1.heap.size ≤ w'.heap.size) (fun i => rs.length - i) 0 ⟨rfl, rfl, rfl, rfl, rfl, rfl, trivial⟩ ⟨Nat.zero_le _, hG, hL, hb4, hX, by omega⟩ ?_
  rintro i wi ⟨hi', hG, hL, hb4, hX, hzi⟩
  have hzX := hX.size
  have htopL := hL.top
  refine c_seqreg (fun K5 hK5 => ?_)
  refine s_val rfl rfl (runs_lt rfl rfl) ?_
  refine s_nil ?_
  refine hK5 _ _ ?_
  refine c_seq (fun K6 hK6 => ?_)
  refine c_dec rfl (fun hin => ?_) (fun hin => ?_)
  · obtain ⟨r, hr⟩ : ∃ r, rs[i]? = some r := ⟨_, List.getElem?_eq_getElem (by omega)⟩
    have hrok := hL.ok r (List.mem_of_getElem? hr)
    obtain ⟨a1', c1', e1, hR1, _⟩ := own_reads hL.own1
    cases e1
    obtain ⟨b1, o1, rfl⟩ := hR1.some_ (by omega)
    have hat := rows_elem hR1 hr
    refine c_skip ?_
    refine hK6 _ _ ?_
    refine c_seq (fun K7 hK7 => ?_)
    refine c_block ?_
    refine c_seqreg (fun K8 hK8 => ?_)
    refine s_val rfl rfl (runs_index_slice (i) Tryd.underlying22 ty34 rfl rfl (by omega) (by omega)) ?_
    refine s_val rfl rfl (runs_loadAgg ty34 rfl hat (Rw.len r)) ?_
    refine s_alloc ty34 rfl rfl ?_
    intro b6 w32 e3_2 z3_2 hb6 X3_2
    have s3_2_hb4 := hb4.lt
    have s3_2_hX := hX.size
    replace hG := hG.keep X3_2 (by simp)
    replace hL := hL.keep X3_2 (by simp)
    replace hb4 := hb4.keep X3_2 (by simp)
    replace hX : Chg w _ [] := (hX.trans X3_2).mono (by intro k hk hlt; simp at hk ⊢ <;> first | omega | grind)
    refine s_storeAll ty34 rfl rfl rfl hb6 (Rw.len r) rfl (Rw.one r) ?_
    intro w33 z3_3 h3_3 X3_3
    replace hG := hG.keep X3_3 (by simp; omega)
    replace hL := hL.keep X3_3 (by have := hL.top; simp; omega)
    replace hb4 := hb4.keep X3_3 (by simp; omega)
    replace hX : Chg w _ [] := (hX.trans X3_3).mono (by intro k hk hlt; simp at hk ⊢ <;> first | omega | grind)
    replace hb6 := h3_3
    refine s_nil ?_
    have hlb6 := hb6.lt
    have hzX3 := hX.size
    refine hK8 _ _ ?_
    refine c_seqreg (fun K11 hK11 => ?_)
    refine s_val rfl rfl (runs_move rfl) ?_
    refine s_val rfl rfl (runs_nil_ne_nil Tryd.underlying38 rfl rfl) ?_
    refine s_nil ?_
    refine hK11 _ _ ?_
    refine c_false rfl ?_
    refine c_skip ?_
    refine hK7 _ _ ?_
    refine c_reg ?_
    refine s_val rfl rfl (runs_add64 rfl rfl (by omega)) ?_
    refine s_val rfl rfl (runs_move rfl) ?_
    refine s_nil ?_
    dsimp only [Post.setN]
    exact ⟨i + 1, ⟨rfl, rfl, rfl, rfl, rfl, rfl, trivial⟩, ⟨by omega, hG, hL, hb4, hX, by omega⟩, by omega⟩
  · obtain ⟨a2, c2, e2, hH, hob⟩ := own_hs hL.own2 (leavesR_ok rs) (by simp)
    subst e2
    refine c_exit ?_
    refine hK3 _ _ ?_
    refine c_seqreg (fun K12 hK12 => ?_)
    refine s_val rfl rfl (runs_move rfl) ?_
    refine s_val rfl rfl (runs_move rfl) ?_
    refine s_val rfl rfl (runs_nilCheck rfl) ?_
    refine s_val rfl rfl (runs_fieldAddr Tryd.underlying53 rfl ty51 (by decide) rfl) ?_
    refine s_val rfl rfl (runs_load1 ty51 rfl (hL.blk.cell (o := 1) rfl)) ?_
    refine s_callf (xs := [.tmp 22, .tmp 26]) rfl rfl Tryd.func19 rfl (by kernel_rfl) rfl (root0 hG (by omega) hH (by omega)) ?_
    rintro _ w7 ⟨rfl, X7_5⟩
    replace hG := hG.keep X7_5 (by simp)
    replace hL := hL.keep X7_5 (by simp)
    replace hb4 := hb4.keep X7_5 (by simp)
    replace hX : Chg w _ [] := (hX.trans X7_5).mono (by intro k hk hlt; simp at hk ⊢ <;> first | omega | grind)
    have zs7_5 := X7_5.size
    refine s_storeAll ty43 rfl rfl rfl hb4 (by rw [natsC_length]; exact hro) (by simp) (natsC_one _ _) ?_
    intro w76 z7_6 h7_6 X7_6
    replace hX : Chg w _ [] := (hX.trans X7_6).mono (by intro k hk hlt; simp at hk ⊢ <;> first | omega | grind)
    replace hb4 := h7_6
    refine s_nil ?_
    refine hK12 _ _ ?_
    refine c_ret ?_
    refine hret _ _ ?_
    exact ends1 (reads_cell ty43 rfl hb4.at (by rw [natsC_length]; exact hro)) ⟨rfl, hX⟩
set_option maxHeartbeats 1000000 in
theorem lsRootT {B : Nat} {w : World} {lx hx bx lo hi bt : Nat} {l : List Nat} {ts : TS} {v1 v2 : Value} {rs : List Rw} (hL : LsV w lx hx bx v1 v2 rs) (hT0 : TG w B lo hi l (.pointer (some ⟨bt, 0, none⟩)) ts) (hxl : hx ≤ lo) (hG : GH B w) (hB : B ≤ w.heap.size) (hlo : lo ≤ w.heap.size) (hl : ∀ x ∈ l, x < w.heap.size) (hn : rs.length ≤ 1000) (htl : ts.len + 2 * rs.length ≤ 1073741824) :
    CallsR Tryd.prog 17 #[.pointer (some ⟨bx, 0, none⟩), .pointer (some ⟨bt, 0, none⟩)] w fun v w' => v = hv (Sp.root (Sp.leaves rs)) ∧ ∃ ts', TP w w' B lo l (.pointer (some ⟨bt, 0, none⟩)) ts ts' (rs.map (fun r => 0 :: Sp.rowB r) ++ Sp.notes (Sp.leaves rs)) := by
  have hX : Chg w w (foot ts) := Chg.refl _ _
  have hro := root_len _ (leavesR_ok rs)
  have htop := hT0.top
  have hft := hT0.foot
  obtain ⟨a1, c1, rfl, _, _⟩ := own_reads hL.own1
  refine f_enter (l := [.pointer (some ⟨bx, 0, none⟩), .pointer (some ⟨bt, 0, none⟩)]) Tryd.func17 rfl rfl rfl rfl ?_
  intro Qf hnrm hret
  refine c_seqreg (fun K1 hK1 => ?_)
  refine s_alloc ty43 rfl rfl ?_
  intro b4 w1 e0_0 z0_0 hb4 X0_0
  have s0_0_hX := hX.size
  replace hG := hG.keep X0_0 (by simp)
  replace hL := hL.keep X0_0 (by simp)
  replace hX : Chg w _ (foot ts) := (hX.trans X0_0).mono (by intro k hk hlt; simp at hk ⊢ <;> first | omega | grind)
  replace hT0 := hT0.keep X0_0 (by simp)
  have hl4 := hb4.lt
  have hzX := hX.size
  refine s_nil ?_
  refine hK1 _ _ ?_
  refine c_seq (fun K3 hK3 => ?_)
  refine c_seqreg (fun K4 hK4 => ?_)
  refine s_val rfl rfl (runs_move rfl) ?_
  refine s_val rfl rfl (runs_nilCheck rfl) ?_
  refine s_val rfl rfl (runs_fieldAddr Tryd.underlying53 rfl ty22 (by decide) rfl) ?_
  refine s_val rfl rfl (runs_load1 ty22 rfl (hL.blk.cell (o := 0) rfl)) ?_
  refine s_val rfl rfl (runs_len_slice Tryd.underlying22 rfl) ?_
  refine s_val rfl rfl (runs_move rfl) ?_
  refine s_nil ?_
  refine hK4 _ _ ?_
  refine c_block ?_
  refine c_loop (σ := Nat) (fun i => [(12, .int .i64 (i : Int)), (11, .int .i64 (rs.length : Int)), (10, .slice a1 rs.length c1), (1, .pointer (some ⟨bt, 0, none⟩)), (0, .pointer (some ⟨bx, 0, none⟩)), (4, .pointer (some ⟨b4, 0, none⟩))]) (fun i w' => i ≤ rs.length ∧ GH B w' ∧ LsV w' lx hx bx (.slice a1 rs.length c1) v2 rs ∧ Blk w' b4 (List.replicate 32 (.int .u8 0)) 43 ∧ Chg w w' (foot ts) ∧ w1.heap.size ≤ w'.heap.size ∧ ∃ hi' ts', TG w' B lo hi' (b4 :: l) (.pointer (some ⟨bt, 0, none⟩)) ts' ∧ Notes ((rs.take i).map (fun r => 0 :: Sp.rowB r)) ts ts' ∧ ∀ k ∈ foot ts', k ∈ foot ts ∨ w.heap.size ≤ k) (fun i => rs.length - i) 0 ⟨rfl, rfl, rfl, rfl, rfl, rfl, trivial⟩ ⟨Nat.zero_le _, hG, hL, hb4, hX, by omega, _, ts, hT0.set (b4 :: l) (by intro x hx; simp only [List.mem_cons] at hx; rcases hx with rfl | hx; right; omega; left; exact hx), Notes.nil, fun k hk => .inl hk⟩ ?_
  rintro i wi ⟨hi', hG, hL, hb4, hX, hzi, hiT, ts1, hT, hN, hF⟩
  have htopL := hL.top
  have hzX := hX.size
  have htop1 := hT.top
  have hft1 := hT.foot
  have hnl := hN.len
  rw [List.length_map, List.length_take] at hnl
  have hlb4 := hb4.lt
  refine c_seqreg (fun K5 hK5 => ?_)
  refine s_val rfl rfl (runs_lt rfl rfl) ?_
  refine s_nil ?_
  refine hK5 _ _ ?_
  refine c_seq (fun K6 hK6 => ?_)
  refine c_dec rfl (fun hin => ?_) (fun hin => ?_)
  · obtain ⟨r, hr⟩ : ∃ r, rs[i]? = some r := ⟨_, List.getElem?_eq_getElem (by omega)⟩
    have hrok := hL.ok r (List.mem_of_getElem? hr)
    obtain ⟨a1', c1', e1, hR1, _⟩ := own_reads hL.own1
    cases e1
    obtain ⟨b1, o1, rfl⟩ := hR1.some_ (by omega)
    have hat := rows_elem hR1 hr
    refine c_skip ?_
    refine hK6 _ _ ?_
    refine c_seq (fun K7 hK7 => ?_)
    refine c_block ?_
    refine c_seqreg (fun K8 hK8 => ?_)
    refine s_val rfl rfl (runs_index_slice (i) Tryd.underlying22 ty34 rfl rfl (by omega) (by omega)) ?_
    refine s_val rfl rfl (runs_loadAgg ty34 rfl hat (Rw.len r)) ?_
    refine s_alloc ty34 rfl rfl ?_
    intro b6 w32 e3_2 z3_2 hb6 X3_2
    have s3_2_hb4 := hb4.lt
    have s3_2_hX := hX.size
    replace hG := hG.keep X3_2 (by simp)
    replace hL := hL.keep X3_2 (by simp)
    replace hb4 := hb4.keep X3_2 (by simp)
    replace hX : Chg w _ (foot ts) := (hX.trans X3_2).mono (by intro k hk hlt; simp at hk ⊢ <;> first | omega | grind)
    replace hT := hT.keep X3_2 (by simp)
    refine s_storeAll ty34 rfl rfl rfl hb6 (Rw.len r) rfl (Rw.one r) ?_
    intro w33 z3_3 h3_3 X3_3
    replace hG := hG.keep X3_3 (by simp; omega)
    replace hL := hL.keep X3_3 (by have := hL.top; simp; omega)
    replace hb4 := hb4.keep X3_3 (by simp; omega)
    replace hX : Chg w _ (foot ts) := (hX.trans X3_3).mono (by intro k hk hlt; simp only [List.mem_append, List.mem_singleton] at hk; rcases hk with hk | hk; exact hk; omega)
    replace hT := hT.keep X3_3 (by simp [Rg] <;> omega)
    replace hb6 := h3_3
    refine s_nil ?_
    have hlb6 := hb6.lt
    have hzX3 := hX.size
    refine hK8 _ _ ?_
    refine c_seqreg (fun K11 hK11 => ?_)
    refine s_val rfl rfl (runs_move rfl) ?_
    refine s_val rfl rfl (runs_ptr_ne_nil Tryd.underlying38 rfl rfl) ?_
    refine s_nil ?_
    refine hK11 _ _ ?_
    refine c_true rfl ?_
    refine c_reg ?_
    refine s_val rfl rfl (runs_move rfl) ?_
    refine s_val rfl rfl (runs_loadAgg ty34 rfl hb6.at (Rw.len r)) ?_
    refine s_callf (xs := [.tmp 18, .tmp 19]) rfl rfl Tryd.func14 rfl (by kernel_rfl) rfl (rowLeaf_calls B lo _ (b6 :: b4 :: l) _ ts1 r _ (hT.set _ (by intro x hx; simp only [List.mem_cons] at hx; rcases hx with rfl | rfl | hx; right; omega; left; simp; left; simp [hx])) hG (by omega) (by omega) (by intro x hx; simp only [List.mem_cons] at hx; rcases hx with rfl | rfl | hx; omega; omega; have := hl x hx; omega) hrok (by omega)) ?_
    rintro _ w5 ⟨rfl, ts2, hP⟩
    replace hG := hG.keep hP.chg (fun k hk => hT.arg.foot_lo k hk)
    replace hL := hL.keep hP.chg (fun k hk => .inr (by have := (hft1 k hk).1; omega))
    replace hb4 := hb4.keep hP.chg (fun hm => (hft1 _ hm).2.2 (by simp))
    replace hX : Chg w _ (foot ts) := (hX.trans hP.chg).mono (by intro k hk hlt; simp only [List.mem_append] at hk; rcases hk with hk | hk; exact hk; rcases hF k hk with h | h; exact h; omega)
    have zs5_2 := hP.chg.size
    have hT := hP.tg
    refine s_nil ?_
    refine hK7 _ _ ?_
    refine c_reg ?_
    refine s_val rfl rfl (runs_add64 rfl rfl (by omega)) ?_
    refine s_val rfl rfl (runs_move rfl) ?_
    refine s_nil ?_
    dsimp only [Post.setN]
    exact ⟨i + 1, ⟨rfl, rfl, rfl, rfl, rfl, rfl, trivial⟩, ⟨by omega, hG, hL, hb4, hX, by omega, _, ts2, hT.set (b4 :: l) (fun x hx => .inl (by simp only [List.mem_cons] at hx ⊢; exact .inr hx)), by rw [List.take_add_one, hr]; simpa using hN.trans hP.notes, fun k hk => (hP.foot k hk).elim (fun h => hF k h) (fun h => .inr (by omega))⟩, by omega⟩
  · obtain ⟨a2, c2, e2, hH, hob⟩ := own_hs hL.own2 (leavesR_ok rs) (by simp)
    subst e2
    refine c_exit ?_
    refine hK3 _ _ ?_
    refine c_seqreg (fun K13 hK13 => ?_)
    refine s_val rfl rfl (runs_move rfl) ?_
    refine s_val rfl rfl (runs_move rfl) ?_
    refine s_val rfl rfl (runs_nilCheck rfl) ?_
    refine s_val rfl rfl (runs_fieldAddr Tryd.underlying53 rfl ty51 (by decide) rfl) ?_
    refine s_val rfl rfl (runs_load1 ty51 rfl (hL.blk.cell (o := 1) rfl)) ?_
    refine s_callf (xs := [.tmp 22, .tmp 26]) rfl rfl Tryd.func19 rfl (by kernel_rfl) rfl ((hT.set (b4 :: l) (fun x hx => .inl hx)).rootc hG (by omega) (by omega) (by intro x hx; simp only [List.mem_cons] at hx; rcases hx with rfl | hx; omega; have := hl x hx; omega) hH (fun p hp => .inl (by have := hL.h2 p.block (by rw [hob, hp]; rfl); omega)) (by omega) (by omega)) ?_
    rintro _ w7 ⟨rfl, ts2, hP⟩
    replace hG := hG.keep hP.chg (fun k hk => hT.arg.foot_lo k hk)
    replace hL := hL.keep hP.chg (fun k hk => .inr (by have := (hft1 k hk).1; omega))
    replace hb4 := hb4.keep hP.chg (fun hm => (hft1 _ hm).2.2 (by simp))
    replace hX : Chg w _ (foot ts) := (hX.trans hP.chg).mono (by intro k hk hlt; simp only [List.mem_append] at hk; rcases hk with hk | hk; exact hk; rcases hF k hk with h | h; exact h; omega)
    have zs7_5 := hP.chg.size
    have hT := hP.tg
    refine s_storeAll ty43 rfl rfl rfl hb4 (by rw [natsC_length]; exact hro) (by simp) (natsC_one _ _) ?_
    intro w76 z7_6 h7_6 X7_6
    replace hX : Chg w _ (foot ts) := (hX.trans X7_6).mono (by intro k hk hlt; simp at hk ⊢ <;> first | omega | grind)
    replace hT := hT.keep X7_6 (by simp [Rg] <;> omega)
    replace hb4 := h7_6
    refine s_nil ?_
    refine hK13 _ _ ?_
    refine c_ret ?_
    refine hret _ _ ?_
    obtain rfl : i = rs.length := by omega
    rw [List.take_of_length_le (Nat.le_refl _)] at hN
    exact ends1 (reads_cell ty43 rfl hb4.at (by rw [natsC_length]; exact hro)) ⟨rfl, ts2, ⟨hT.set l (fun x hx => .inl (by simp [hx])), hN.trans hP.notes, hX, fun k hk => (hP.foot k hk).elim (fun h => hF k h) (fun h => .inr (by omega))⟩⟩
theorem TL.lsRoot {w : World} {B lo hi : Nat} {l : List Nat} {bt : Nat} {vt : Value} {L : List (List Nat)} (h : TL w B lo hi l bt vt L) (ns : List Nat) (hns : ∀ x ∈ ns, hi ≤ x ∧ x < w.heap.size) (hG : GH B w) (hB : B ≤ w.heap.size)
    {lx hx bx : Nat} {v1 v2 : Value} {rs : List Rw} (hL : LsV w lx hx bx v1 v2 rs) (hxl : hx ≤ lo) (hn : rs.length ≤ 1000) (htl : L.length + 2 * rs.length ≤ 1073741824) :
    CallsR Tryd.prog 17 #[.pointer (some ⟨bx, 0, none⟩), .pointer (some ⟨bt, 0, none⟩)] w fun v w' => v = hv (Sp.root (Sp.leaves rs)) ∧ ∃ vt', TC w w' B lo (ns ++ l) bt vt vt' L (rs.map (fun r => 0 :: Sp.rowB r) ++ Sp.notes (Sp.leaves rs)) := by
  have h1 := h.add ns hns
  exact (lsRootT hL h1.tg hxl hG hB h1.base h1.lt hn (by simpa [TS.len] using htl)).mono fun _ _ ⟨e, _, p⟩ => ⟨e, h1.after p⟩
theorem TL.rleaf {w : World} {B lo hi : Nat} {l : List Nat} {bt : Nat} {vt : Value} {L : List (List Nat)} (h : TL w B lo hi l bt vt L) (ns : List Nat) (hns : ∀ x ∈ ns, hi ≤ x ∧ x < w.heap.size) (hG : GH B w) (hB : B ≤ w.heap.size)
    {r : Rw} (hr : r.Ok) (htl : L.length ≤ 1073741824) :
    CallsR Tryd.prog 14 #[.pointer (some ⟨bt, 0, none⟩), rv r] w fun v w' => v = hv (Sp.rleaf r) ∧ ∃ vt', TC w w' B lo (ns ++ l) bt vt vt' L [0 :: Sp.rowB r] := by
  have h1 := h.add ns hns
  exact (rowLeaf_calls B lo _ (ns ++ l) _ _ r w h1.tg hG hB h1.base h1.lt hr (by simpa [TS.len] using htl)).mono fun _ _ ⟨e, _, p⟩ => ⟨e, h1.after p⟩
end Go.Proofs.YtlkeofjgmegcfaaDoor
