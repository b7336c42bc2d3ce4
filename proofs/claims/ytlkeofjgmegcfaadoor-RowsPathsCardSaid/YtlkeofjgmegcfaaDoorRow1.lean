/- Part Row1 of the proofs on this seat. Conditions: none beyond those in the theorems. By an AI agent. -/
import Derived.Test.YtlkeofjgmegcfaaDoorRow0
namespace Go.Proofs.YtlkeofjgmegcfaaDoor
open Go Go.RowKit

def Sp.rleaf (r : Rw) : List Nat := Sp.leaf (Sp.rowB r)
theorem rleaf_ok (r : Rw) : HOk (Sp.rleaf r) := leaf_ok _
set_option maxHeartbeats 1000000 in
theorem rowLeaf_calls (B lo hi : Nat) (l : List Nat) (tv : Value) (ts : TS) (r : Rw) (w : World) (hT0 : TG w B lo hi l tv ts) (hG : GH B w) (hBw : B ≤ w.heap.size) (hlo : lo ≤ w.heap.size) (hl : ∀ x ∈ l, x < w.heap.size) (hr : r.Ok) (htl : ts.len ≤ 1073741824) :
    CallsR Tryd.prog 14 #[tv, rv r] w fun v w' => v = hv (Sp.rleaf r) ∧ ∃ ts', TP w w' B lo l tv ts ts' [0 :: Sp.rowB r] := by
  have hX : Chg w w (foot ts) := Chg.refl _ _
  have hT := hT0
  have htop := hT0.top
  have hft := hT0.foot
  have hro := rleaf_ok r
  refine f_enter (l := [tv, rv r]) Tryd.func14 rfl rfl rfl rfl ?_
  intro Qf hnrm hret
  refine c_seqreg (fun K1 hK1 => ?_)
  refine s_box rfl rfl rfl ?_
  intro b3 w1 e0_0 z0_0 hb3 X0_0
  have s0_0_hX := hX.size
  replace hG := hG.keep X0_0 (by simp)
  replace hT := hT.keep X0_0 (by simp)
  replace hX : Chg w _ (foot ts) := (hX.trans X0_0).mono (by intro k hk hlt; simp at hk ⊢ <;> first | omega | grind)
  replace hb3 : Blk w1 b3 (r.C) 34 := hb3
  refine s_alloc ty43 rfl rfl ?_
  intro b4 w2 e0_1 z0_1 hb4 X0_1
  have s0_1_hX := hX.size
  have s0_1_hb3 := hb3.lt
  replace hG := hG.keep X0_1 (by simp)
  replace hT := hT.keep X0_1 (by simp)
  replace hX : Chg w _ (foot ts) := (hX.trans X0_1).mono (by intro k hk hlt; simp at hk ⊢ <;> first | omega | grind)
  replace hb3 := hb3.keep X0_1 (by simp)
  have hl3 := hb3.lt
  have hl4 := hb4.lt
  have hzX := hX.size
  refine s_nil ?_
  refine hK1 _ _ ?_
  refine c_seqreg (fun K4 hK4 => ?_)
  refine s_val rfl rfl (runs_move rfl) ?_
  refine s_val rfl rfl (runs_loadAgg ty34 rfl hb3.at (Rw.len r)) ?_
  refine s_callf (xs := [.tmp 6]) rfl rfl Tryd.func26 rfl (by kernel_rfl) rfl (wireRow_calls r _ hr) ?_
  rintro v3 w3 ⟨hown, X1_2⟩
  replace hG := hG.keep X1_2 (by simp)
  replace hT := hT.keep X1_2 (by simp)
  replace hX : Chg w _ (foot ts) := (hX.trans X1_2).mono (by intro k hk hlt; simp at hk ⊢ <;> first | omega | grind)
  replace hb3 := hb3.keep X1_2 (by simp)
  replace hb4 := hb4.keep X1_2 (by simp)
  have zs1_2 := X1_2.size
  obtain ⟨a3, c3, rfl, hR3, _⟩ := own_bytes hown
  refine s_callf (xs := [.tmp 5, .tmp 7]) rfl rfl Tryd.func25 rfl (by kernel_rfl) rfl ((hT.set (b4 :: l) (by intro x hx; simp only [List.mem_cons] at hx; rcases hx with rfl | hx; right; omega; left; exact hx)).leafc hG (by omega) (by omega) (by intro x hx; simp only [List.mem_cons] at hx; rcases hx with rfl | hx; have := hb4.lt; omega; have := hl x hx; omega) hR3 (rowB_lt r) (by omega) htl) ?_
  rintro _ w4 ⟨rfl, ts1, hP⟩
  replace hG := hG.keep hP.chg (fun k hk => hT0.arg.foot_lo k hk)
  replace hX : Chg w _ (foot ts) := (hX.trans hP.chg).mono (by intro k hk _; simpa using hk)
  replace hb3 := hb3.keep hP.chg (fun hm => by have := (hft _ hm).2.1; omega)
  replace hb4 := hb4.keep hP.chg (fun hm => by have := (hft _ hm).2.1; omega)
  have zs1_3 := hP.chg.size
  have hT := hP.tg
  refine s_storeAll ty43 rfl rfl rfl hb4 (by rw [natsC_length]; exact hro.1) rfl (natsC_one _ _) ?_
  intro w5 z1_4 h1_4 X1_4
  replace hX : Chg w _ (foot ts) := (hX.trans X1_4).mono (by intro k hk hlt; simp at hk ⊢ <;> first | omega | grind)
  replace hb3 := hb3.keep X1_4 (by simp; omega)
  replace hT := hT.keep X1_4 (by simp [Rg] <;> omega)
  replace hb4 := h1_4
  refine s_nil ?_
  refine hK4 _ _ ?_
  refine c_ret ?_
  refine hret _ _ ?_
  refine ends1 (reads_cell ty43 rfl hb4.at (by rw [natsC_length]; exact hro.1)) ⟨rfl, ts1, ⟨hT.set l (fun x hx => .inl (by simp [hx])), hP.notes, hX, fun k hk => (hP.foot k hk).imp id (fun h => by omega)⟩⟩
theorem rowLeaf0 {B : Nat} {w : World} (r : Rw) (hG : GH B w) (hB : B ≤ w.heap.size) (hr : r.Ok) : CallsR Tryd.prog 14 #[.pointer none, rv r] w fun v w' => v = hv (Sp.rleaf r) ∧ Chg w w' [] :=
  (rowLeaf_calls B w.heap.size _ [] _ none r w (TG.none_ w B _ _) hG hB (Nat.le_refl _) (by simp) hr (by simp [TS.len])).mono fun _ _ ⟨e, _, p⟩ => ⟨e, p.chg⟩

/-- A list of rows: the struct's block, its two slices. All its blocks are from lo on, below hi. -/
structure LsV (w : World) (lo hi bx : Nat) (v1 v2 : Value) (rs : List Rw) : Prop where
  blk : Blk w bx [v1, v2] 53
  low : lo ≤ bx
  high : bx < hi
  own1 : w.ownsRow lo 34 14 v1 rs.length (rs.flatMap Rw.C)
  own2 : w.ownsRow lo 43 32 v2 rs.length (natsC .u8 (rs.map Sp.rleaf).flatten)
  h1 : ∀ k, v1.ownBlock = some k → k < hi
  h2 : ∀ k, v2.ownBlock = some k → k < hi
  ok : ∀ r ∈ rs, r.Ok
  top : hi ≤ w.heap.size
/-- Which blocks it has. -/
def lsB (bx : Nat) (v1 v2 : Value) : List Nat := bx :: (v1.ownBlock.toList ++ v2.ownBlock.toList)
theorem LsV.rng {w : World} {lo hi bx : Nat} {v1 v2 : Value} {rs : List Rw} (h : LsV w lo hi bx v1 v2 rs) : ∀ k ∈ lsB bx v1 v2, lo ≤ k ∧ k < hi := by
  intro k hk
  simp only [lsB, List.mem_cons, List.mem_append, Option.mem_toList] at hk
  rcases hk with rfl | hk | hk
  · exact ⟨h.low, h.high⟩
  · exact ⟨(h.own1.lt k hk).1, h.h1 k hk⟩
  · exact ⟨(h.own2.lt k hk).1, h.h2 k hk⟩
theorem LsV.keep {w w' : World} {lo hi bx : Nat} {v1 v2 : Value} {rs : List Rw} {M : List Nat} (h : LsV w lo hi bx v1 v2 rs) (x : Chg w w' M) (hM : ∀ k ∈ M, k < lo ∨ hi ≤ k) : LsV w' lo hi bx v1 v2 rs := by
  have hr := h.rng
  have hn : ∀ k ∈ lsB bx v1 v2, k ∉ M := fun k hk hm => by have := hr k hk; rcases hM k hm with h | h <;> omega
  exact ⟨h.blk.keep x (hn _ (by simp [lsB])), h.low, h.high, own_keep h.own1 x (fun k hk => hn k (by simp [lsB, hk])), own_keep h.own2 x (fun k hk => hn k (by simp [lsB, hk])), h.h1, h.h2, h.ok, Nat.le_trans h.top x.size⟩
theorem lsB_ne {w : World} {lo hi bx b : Nat} {v1 v2 : Value} {rs : List Rw} {cs : List Value} {t : TypeId} (h : LsV w lo hi bx v1 v2 rs) (hb : Blk w b cs t) (hne : t ∉ [53, 34, 43]) : b ∉ lsB bx v1 v2 := by
  intro hm
  simp only [List.mem_cons, not_or, List.not_mem_nil, not_false_eq_true, and_true] at hne
  simp only [lsB, List.mem_cons, List.mem_append, Option.mem_toList] at hm
  rcases hm with rfl | hm | hm
  · have := hb.symm.trans h.blk
    simp at this
    exact hne.1 this.2
  · exact own_ne h.own1 hb hne.2.1 hm
  · exact own_ne h.own2 hb hne.2.2 hm
theorem LsV.hi {w : World} {lo hi bx : Nat} {v1 v2 : Value} {rs : List Rw} (h : LsV w lo hi bx v1 v2 rs) : LsV w lo w.heap.size bx v1 v2 rs :=
  ⟨h.blk, h.low, Nat.lt_of_lt_of_le h.high h.top, h.own1, h.own2, fun k hk => Nat.lt_of_lt_of_le (h.h1 k hk) h.top, fun k hk => Nat.lt_of_lt_of_le (h.h2 k hk) h.top, h.ok, Nat.le_refl _⟩
theorem own_own {w : World} {B B' n n' s s' : Nat} {e e' : TypeId} {v v' : Value} {xs xs' : List Value} (h : w.ownsRow B e s v n xs) (h' : w.ownsRow B' e' s' v' n' xs') (hne : e ≠ e') {k : Nat} (hk : v.ownBlock = some k) : v'.ownBlock ≠ some k := by
  obtain ⟨_, _, cs, hb⟩ := own_blk h hk
  exact own_ne h' hb hne
theorem rows_len (l : List Rw) : (l.flatMap Rw.C).length = l.length * 14 := by
  induction l with
  | nil => rfl
  | cons x l ih => simp only [List.flatMap_cons, List.length_append, ih, Rw.len, List.length_cons]; omega
theorem rows_at (l : List Rw) (i : Nat) (x : Rw) (h : l[i]? = some x) : ((l.flatMap Rw.C).drop (i * 14)).take 14 = x.C := by
  induction l generalizing i with
  | nil => simp at h
  | cons y l ih =>
    cases i with
    | zero => simp at h; subst h; rfl
    | succ i =>
      simp only [List.getElem?_cons_succ] at h
      simp only [List.flatMap_cons]
      rw [List.drop_append, List.drop_eq_nil_of_le (by rw [Rw.len]; omega), List.nil_append, Rw.len, show (i + 1) * 14 - 14 = i * 14 by omega]
      exact ih i h

set_option maxHeartbeats 2000000 in
theorem add_calls (B lo hi bx : Nat) (v1 v2 : Value) (rs : List Rw) (r : Rw) (w : World) (hL : LsV w lo hi bx v1 v2 rs) (hG : GH B w) (hBw : B ≤ lo) (hr : r.Ok) (hn : rs.length ≤ 1000) :
    CallsR Tryd.prog 18 #[.pointer (some ⟨bx, 0, none⟩), rv r] w fun _ w' => ∃ v1' v2', LsV w' lo w'.heap.size bx v1' v2' (rs ++ [r]) ∧ Chg w w' (lsB bx v1 v2) ∧ GH B w' := by
  obtain ⟨hbx, hlow, hhigh, hown1, hown2, hh1, hh2, hok, htop⟩ := hL
  have hX : Chg w w (lsB bx v1 v2) := Chg.refl _ _
  have hro := rleaf_ok r
  have hnew1 : ∀ k, v1.ownBlock = some k → v1.ownBlock = some k ∨ w.heap.size ≤ k := fun k hk => .inl hk
  refine f_enter (l := [.pointer (some ⟨bx, 0, none⟩), rv r]) Tryd.func18 rfl rfl rfl rfl ?_
  intro Qf hnrm hret
  refine c_seqreg (fun K1 hK1 => ?_)
  refine s_box rfl rfl rfl ?_
  intro b3 w1 e0_0 z0_0 hb3 X0_0
  have s0_0_hX := hX.size
  have s0_0_hbx := hbx.lt
  replace hG := hG.keep X0_0 (by simp)
  replace hX : Chg w _ (lsB bx v1 v2) := (hX.trans X0_0).mono (by intro k hk hlt; simp at hk ⊢ <;> first | omega | grind)
  replace hbx := hbx.keep X0_0 (by simp)
  replace hown1 := own_keep hown1 X0_0 (by simp)
  replace hown2 := own_keep hown2 X0_0 (by simp)
  replace hb3 : Blk w1 b3 (r.C) 34 := hb3
  have hl3 := hb3.lt
  have hzX := hX.size
  refine s_nil ?_
  refine hK1 _ _ ?_
  refine c_drawX [19, 22] ((v1.ownBlock.toList ++ v2.ownBlock.toList)) (by kernel_rfl) ?_
  intro wd1 Xd1 hS1
  replace hG := hG.keep Xd1 (by simp)
  replace hX : Chg w _ (lsB bx v1 v2) := (hX.trans Xd1).mono (by intro k hk hlt; simp at hk ⊢ <;> first | omega | grind)
  replace hbx := hbx.keep Xd1 (by simp)
  replace hown1 := own_keep hown1 Xd1 (by simp)
  replace hown2 := own_keep hown2 Xd1 (by simp)
  replace hb3 := hb3.keep Xd1 (by simp)
  have zd1 := Xd1.size
  have hdx : bx ∉ v1.ownBlock.toList ++ v2.ownBlock.toList := fun hm => by
    simp only [List.mem_append, Option.mem_toList] at hm
    rcases hm with hm | hm
    · exact own_ne hown1 hbx (by decide) hm
    · exact own_ne hown2 hbx (by decide) hm
  have hd3 : b3 ∉ v1.ownBlock.toList ++ v2.ownBlock.toList := fun hm => by
    simp only [List.mem_append, Option.mem_toList] at hm
    rcases hm with hm | hm
    · have := hh1 _ hm; omega
    · have := hh2 _ hm; omega
  refine d_takeR 0 4 rfl (by kernel_rfl) rfl hS1 (fun wS hS => runs_move rfl) ?_
  refine d_pure 1 5 rfl (by kernel_rfl) rfl (fun wS _ => runs_move rfl) ?_
  refine d_takeR 2 6 rfl (by kernel_rfl) rfl hS1 (fun wS hS => runs_move rfl) ?_
  refine d_takeR 3 7 rfl (by kernel_rfl) rfl hS1 (fun wS hS => runs_nilCheck rfl) ?_
  refine d_takeR 4 8 rfl (by kernel_rfl) rfl hS1 (fun wS hS => runs_fieldAddr Tryd.underlying53 rfl ty22 (by decide) rfl) ?_
  refine d_takeR 5 9 rfl (by kernel_rfl) rfl hS1 (fun wS hS => runs_load1 ty22 rfl ((hbx.keep hS hdx).cell (o := 0) rfl)) ?_
  refine d_takeR 6 10 rfl (by kernel_rfl) rfl hS1 (fun wS hS => runs_loadAgg ty34 rfl ((hb3.keep hS hd3).at) (Rw.len r)) ?_
  refine d_takeR 9 13 rfl (by kernel_rfl) rfl hS1 (fun wS hS => runs_move rfl) ?_
  refine d_takeR 10 14 rfl (by kernel_rfl) rfl hS1 (fun wS hS => runs_nilCheck rfl) ?_
  refine d_takeR 11 15 rfl (by kernel_rfl) rfl hS1 (fun wS hS => runs_fieldAddr Tryd.underlying53 rfl ty51 (by decide) rfl) ?_
  refine d_takeR 12 16 rfl (by kernel_rfl) rfl hS1 (fun wS hS => runs_load1 ty51 rfl ((hbx.keep hS hdx).cell (o := 1) rfl)) ?_
  refine d_takeR 13 17 rfl (by kernel_rfl) rfl hS1 (fun wS hS => runs_loadAgg ty34 rfl ((hb3.keep hS hd3).at) (Rw.len r)) ?_
  refine d_only 7 rfl (by kernel_rfl) ?_
  refine s_lit (xs := [.tmp 10]) Tryd.underlying22 ty34 rfl rfl rfl rfl rfl (by intro v hv; simp at hv; subst hv; rfl) (by decide) (by decide) ?_
  intro b7 w17 e1_7 z1_7 hb7 X1_7
  have s1_7_hX := hX.size
  have s1_7_hbx := hbx.lt
  replace hG := hG.keep X1_7 (by simp)
  replace hX : Chg w _ (lsB bx v1 v2) := (hX.trans X1_7).mono (by intro k hk hlt; simp at hk ⊢ <;> first | omega | grind)
  replace hbx := hbx.keep X1_7 (by simp)
  replace hown1 := own_keep hown1 X1_7 (by simp)
  replace hown2 := own_keep hown2 X1_7 (by simp)
  have hownA := hown1
  have hownB := hown2
  have hbxA := hbx
  replace hS1 : Chg wd1 _ (v1.ownBlock.toList ++ v2.ownBlock.toList) := (hS1.trans X1_7).mono (by intro k hk _; simpa using hk)
  refine s_nil ⟨.inr hS1, ?_⟩
  refine d_only 8 rfl (by kernel_rfl) ?_
  refine s_append Tryd.underlying22 ty34 rfl (by decide) rfl rfl rfl hown1 rfl (lit_reads (m := 1) (size := 14) (cs := r.C) hb7 rfl (by decide)) (Rw.one r) (by simp only [maxLen]; omega) (by omega) (by omega) ?_
  intro u1 w18 H1_8 X1_8 F1_8
  replace hG := hG.keep X1_8 (fun k hm => by have := (hownA.lt k (by simpa using hm)).1; omega)
  replace hX : Chg w _ (lsB bx v1 v2) := (hX.trans X1_8).mono (by intro k hk _; simp only [lsB, List.mem_append, List.mem_cons, Option.mem_toList] at hk ⊢; rcases hk with hk | hk; exact hk; exact .inr (.inl hk))
  replace hbx := hbx.keep X1_8 (fun hm => own_ne hownA hbx (by decide) (by simpa using hm))
  replace hown2 := own_keep hown2 X1_8 (fun k hk hm => own_own hown1 hown2 (by decide) (by simpa using hm) hk)
  have hown1 := H1_8
  have hzs8 := X1_8.size
  have hF1 := F1_8
  have hownC := hown1
  replace hS1 : Chg wd1 _ (v1.ownBlock.toList ++ v2.ownBlock.toList) := (hS1.trans X1_8).mono (by intro k hk _; simp only [List.mem_append, Option.mem_toList] at hk ⊢; rcases hk with hk | hk; exact hk; exact .inl hk)
  refine s_nil ⟨.inr hS1, ?_⟩
  refine d_only 14 rfl (by kernel_rfl) ?_
  refine s_callf (xs := [.const (.pointer none), .tmp 17]) rfl rfl Tryd.func14 rfl (by kernel_rfl) rfl (rowLeaf0 r hG (by omega) hr) ?_
  rintro _ w114 ⟨rfl, X1_14⟩
  replace hG := hG.keep X1_14 (by simp)
  replace hX : Chg w _ (lsB bx v1 v2) := (hX.trans X1_14).mono (by intro k hk hlt; simp at hk ⊢ <;> first | omega | grind)
  replace hbx := hbx.keep X1_14 (by simp)
  replace hown2 := own_keep hown2 X1_14 (by simp)
  replace hown1 := own_keep hown1 X1_14 (by simp)
  have zs1_14 := X1_14.size
  replace hS1 : Chg wd1 _ (v1.ownBlock.toList ++ v2.ownBlock.toList) := (hS1.trans X1_14).mono (by intro k hk _; simpa using hk)
  refine s_nil ⟨.inr hS1, ?_⟩
  refine d_only 15 rfl (by kernel_rfl) ?_
  refine s_lit (xs := [.tmp 18]) Tryd.underlying51 ty43 rfl rfl rfl rfl rfl (hv_sz (l := [Sp.rleaf r]) (by simpa using hro)) (by decide) (by decide) ?_
  intro b15 w115 e1_15 z1_15 hb15 X1_15
  have s1_15_hX := hX.size
  have s1_15_hbx := hbx.lt
  replace hG := hG.keep X1_15 (by simp)
  replace hX : Chg w _ (lsB bx v1 v2) := (hX.trans X1_15).mono (by intro k hk hlt; simp at hk ⊢ <;> first | omega | grind)
  replace hbx := hbx.keep X1_15 (by simp)
  replace hown2 := own_keep hown2 X1_15 (by simp)
  replace hown1 := own_keep hown1 X1_15 (by simp)
  have hownD := hown1
  have hownE := hown2
  replace hS1 : Chg wd1 _ (v1.ownBlock.toList ++ v2.ownBlock.toList) := (hS1.trans X1_15).mono (by intro k hk _; simpa using hk)
  refine s_nil ⟨.inr hS1, ?_⟩
  refine d_only 16 rfl (by kernel_rfl) ?_
  refine s_append Tryd.underlying51 ty43 rfl (by decide) rfl rfl rfl hown2 rfl (hs_lit [Sp.rleaf r] hb15 (by simpa using hro) rfl).rd (natsC_one _ _) (by simp only [maxLen]; omega) (by omega) (by omega) ?_
  intro u2 w116 H1_16 X1_16 F1_16
  replace hG := hG.keep X1_16 (fun k hm => by have := (hownE.lt k (by simpa using hm)).1; omega)
  replace hX : Chg w _ (lsB bx v1 v2) := (hX.trans X1_16).mono (by intro k hk _; simp only [lsB, List.mem_append, List.mem_cons, Option.mem_toList] at hk ⊢; rcases hk with hk | hk; exact hk; exact .inr (.inr hk))
  replace hbx := hbx.keep X1_16 (fun hm => own_ne hownE hbx (by decide) (by simpa using hm))
  replace hown1 := own_keep hown1 X1_16 (fun k hk hm => own_own hown1 hown2 (by decide) hk (by simpa using hm))
  have hown2 := H1_16
  have hzs16 := X1_16.size
  have hF2 := F1_16
  replace hS1 : Chg wd1 _ (v1.ownBlock.toList ++ v2.ownBlock.toList) := (hS1.trans X1_16).mono (by intro k hk _; simp only [List.mem_append, Option.mem_toList] at hk ⊢; rcases hk with hk | hk; exact hk; exact .inr hk)
  refine s_nil ⟨.inr hS1, ?_⟩
  refine d_pure 17 21 rfl (by kernel_rfl) rfl (fun wS _ => runs_nilCheck rfl) ?_
  refine d_pure 18 22 rfl (by kernel_rfl) rfl (fun wS _ => runs_fieldAddr Tryd.underlying53 rfl ty22 (by decide) rfl) ?_
  refine d_only 19 rfl (by kernel_rfl) ?_
  refine s_store1 ty22 rfl rfl rfl hbx (own_one hown1) (by simp) ?_
  intro w119 z1_19 h1_19 X1_19
  replace hG := hG.keep X1_19 (by simp; omega)
  replace hX : Chg w _ (lsB bx v1 v2) := (hX.trans X1_19).mono (by intro k hk _; simp only [lsB, List.mem_append, List.mem_cons, List.not_mem_nil, or_false] at hk ⊢; rcases hk with hk | hk; exact hk; exact .inl hk)
  replace hown1 := own_keep hown1 X1_19 (fun k hk hm => own_ne hown1 hbx (by decide) (by simp at hm; rw [← hm]; exact hk))
  replace hown2 := own_keep hown2 X1_19 (fun k hk hm => own_ne hown2 hbx (by decide) (by simp at hm; rw [← hm]; exact hk))
  replace hbx := h1_19
  refine s_nil ⟨.inl rfl, ?_⟩
  refine d_pure 20 23 rfl (by kernel_rfl) rfl (fun wS _ => runs_nilCheck rfl) ?_
  refine d_pure 21 24 rfl (by kernel_rfl) rfl (fun wS _ => runs_fieldAddr Tryd.underlying53 rfl ty51 (by decide) rfl) ?_
  refine d_only 22 rfl (by kernel_rfl) ?_
  refine s_store1 ty51 rfl rfl rfl hbx (own_one hown2) (by simp) ?_
  intro w122 z1_22 h1_22 X1_22
  replace hG := hG.keep X1_22 (by simp; omega)
  replace hX : Chg w _ (lsB bx v1 v2) := (hX.trans X1_22).mono (by intro k hk _; simp only [lsB, List.mem_append, List.mem_cons, List.not_mem_nil, or_false] at hk ⊢; rcases hk with hk | hk; exact hk; exact .inl hk)
  replace hown1 := own_keep hown1 X1_22 (fun k hk hm => own_ne hown1 hbx (by decide) (by simp at hm; rw [← hm]; exact hk))
  replace hown2 := own_keep hown2 X1_22 (fun k hk hm => own_ne hown2 hbx (by decide) (by simp at hm; rw [← hm]; exact hk))
  replace hbx := h1_22
  refine s_nil ⟨.inl rfl, ?_⟩
  refine d_done (by kernel_rfl) ?_
  refine hnrm _ _ ?_
  have hzF := hX.size
  refine ends0 ⟨u1, u2, ⟨hbx, hlow, by omega, ?_, ?_, fun k hk => (hown1.lt k hk).2, fun k hk => (hown2.lt k hk).2, ?_, Nat.le_refl _⟩, hX, hG⟩
  · rw [List.length_append, List.flatMap_append]; simpa using hown1
  · rw [List.length_append, List.map_append, List.flatten_append, natsC_append]; simpa using hown2
  · intro x hx; simp at hx; rcases hx with hx | rfl; exact hok x hx; exact hr
end Go.Proofs.YtlkeofjgmegcfaaDoor
