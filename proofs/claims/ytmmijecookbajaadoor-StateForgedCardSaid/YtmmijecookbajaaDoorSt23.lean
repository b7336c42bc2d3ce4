/- Part St23 of the proofs on this seat. Conditions: none beyond those in the theorems. By an AI agent. -/
import Derived.Test.YtmmijecookbajaaDoorStE
import Derived.Test.YtmmijecookbajaaDoorAllIt
namespace Go.Proofs.YtmmijecookbajaaDoor
open Go Go.RowKit

def Sp.isLeaf (z : List Nat) : Bool := decide (z.length = 131) && decide (z[0]? = some 2)
def Sp.lvs (N : List (List Nat)) (i : Nat) : Nat := ((N.take i).filter Sp.isLeaf).length
theorem lvs_succ {N : List (List Nat)} {i : Nat} {z : List Nat} (h : N[i]? = some z) : Sp.lvs N (i + 1) = Sp.lvs N i + (if Sp.isLeaf z then 1 else 0) := by
  unfold Sp.lvs
  rw [List.take_add_one, h, List.filter_append, List.length_append]
  congr 1
  simp only [Option.toList_some, List.filter_cons, List.filter_nil]
  split <;> rfl
theorem lvs_le (N : List (List Nat)) (i : Nat) : Sp.lvs N i ≤ i := by
  unfold Sp.lvs
  exact Nat.le_trans (List.length_filter_le _ _) (by rw [List.length_take]; omega)
theorem leaves_count : ∀ (m k : Nat) (l : List Ac), 128 - k < m → Wf k l → ((Sp.anotes k l).filter Sp.isLeaf).length = l.length := by
  intro m
  induction m with
  | zero => intro k l h; omega
  | succ m ih =>
    intro k l hm h
    by_cases h2 : 2 ≤ l.length
    · have hk := h.lt h2
      have e1 := ih (k + 1) _ (by omega) (h.lo hk)
      have e2 := ih (k + 1) _ (by omega) (h.hi hk)
      have e3 := congrArg List.length (List.take_append_drop (Sp.lows l k) l)
      rw [List.length_append] at e3
      rw [anotes_two hk h2, List.filter_append, List.filter_append, List.length_append, List.length_append, e1, e2, e3]
      have e4 : Sp.isLeaf (3 :: (Sp.aroot (k + 1) (l.take (Sp.lows l k)) ++ Sp.aroot (k + 1) (l.drop (Sp.lows l k)))) = false := by simp [Sp.isLeaf]
      simp [e4]
    · match l, h, h2 with
      | [], h, _ => rw [anotes_nil h.k_le]; simp [Sp.isLeaf]
      | [a], h, _ => rw [anotes_one h.k_le]; simp [Sp.isLeaf, acB_len (h.num a (by simp))]
      | _ :: _ :: _, _, h2 => simp at h2
theorem notes_last {k : Nat} {l : List Ac} (h : Wf k l) : ∃ m, (Sp.anotes k l).length = m + 1 ∧ (Sp.anotes k l)[m]? = some (Sp.atext k l) := by
  by_cases h2 : 2 ≤ l.length
  · have hk := h.lt h2
    rw [anotes_two hk h2, atext_two h2]
    refine ⟨(Sp.anotes (k + 1) (l.take (Sp.lows l k)) ++ Sp.anotes (k + 1) (l.drop (Sp.lows l k))).length, by rw [List.length_append]; rfl, ?_⟩
    rw [List.getElem?_append_right (Nat.le_refl _)]; simp
  · match l, h, h2 with
    | [], h, _ => rw [anotes_nil h.k_le]; exact ⟨0, rfl, rfl⟩
    | [a], h, _ => rw [anotes_one h.k_le]; exact ⟨0, rfl, rfl⟩
    | _ :: _ :: _, _, h2 => simp at h2
/-- Between two rounds. -/
structure RIS (wc W : World) (b6 b7 : Nat) (N : List (List Nat)) (tvs : List Value) (i : Nat) : Prop where
  v6 : Blk W b6 [.int .i64 (Sp.lvs N i : Int)] 3
  v7 : Blk W b7 [if i = 0 then .slice none 0 0 else tvs.getD (i - 1) undef] 47
  df : ObjAt W wc.heap.size (.deferred (some []))
  chg : Chg wc W [b6, b7]
set_option maxHeartbeats 4000000 in
theorem tapesS_calls (B : Nat) (ls : List Ac) (a : Option Addr) (n c : Nat) (w : World) (hG0 : GH B w) (hBw : B ≤ w.heap.size) (hR : AcR w a n c ls) (hn : n * 144 ≤ 140737488355328) :
    CallsR Tryd.prog 9 #[.slice a n c] w fun v w' => v = .bool true ∧ Chg w w' [] := by
  have hX : Chg w w [] := Chg.refl _ _
  have hG := hG0
  refine f_tail (args := [.slice a n c]) Tryd.func9 rfl rfl rfl rfl ?_
  refine t_seq (fun K1 hK1 => ?_)
  refine c_reg ?_
  refine s_val rfl rfl (runs_assign rfl) ?_
  refine s_nil ?_
  refine hK1 _ _ ?_
  refine t_seq (fun K2 hK2 => ?_)
  refine c_seqreg (fun K3 hK3 => ?_)
  refine s_callf (xs := []) rfl rfl Tryd.func10 rfl (by kernel_rfl) rfl (fit_calls B _ hG (by omega)) ?_
  rintro _ w1 ⟨rfl, X1_0⟩
  replace hG := hG.keep X1_0 (by simp)
  replace hX : Chg w _ [] := (hX.trans X1_0).mono (by intro k hk hlt; simp at hk ⊢ <;> first | omega | grind)
  have zs1_0 := X1_0.size
  refine s_val rfl rfl (runs_not rfl) ?_
  refine s_nil ?_
  refine hK3 _ _ ?_
  refine c_false rfl ?_
  refine c_skip ?_
  refine hK2 _ _ ?_
  refine t_seq (fun K5 hK5 => ?_)
  refine c_reg ?_
  refine s_val rfl rfl (runs_move rfl) ?_
  refine s_callf (xs := [.tmp 12]) rfl rfl Tryd.func14 rfl (by kernel_rfl) rfl (few_calls B ls a n c _ hG (by omega) (hR.keep0 hX) hn) ?_
  rintro _ w31 ⟨v1, rfl, hown, X3_1⟩
  replace hG := hG.keep X3_1 (by simp)
  replace hX : Chg w _ [] := (hX.trans X3_1).mono (by intro k hk hlt; simp at hk ⊢ <;> first | omega | grind)
  have zs3_1 := X3_1.size
  have hlw := few_wf hR.ok
  have hlok := few_ok hR.ok
  have hll := few_len ls
  rw [hR.len] at hll
  obtain ⟨l, hl⟩ : ∃ l, l = Sp.few ls := ⟨_, rfl⟩
  rw [← hl] at hown hlw hlok hll
  obtain ⟨n1, hn1⟩ : ∃ k, k = l.length := ⟨_, rfl⟩
  rw [← hn1] at hown hll
  obtain ⟨a1, c1, rfl, hRl, hob1⟩ := own_acs hown hlw.num hn1.symm
  have hal : ∀ p, a1 = some p → p.block < w31.heap.size := fun p hp => (hown.lt p.block (by rw [hob1, hp]; rfl)).2
  have hzX3 := hX.size
  refine s_val rfl rfl (runs_move rfl) ?_
  refine s_val rfl rfl (runs_extract rfl rfl) ?_
  refine s_val rfl rfl (runs_extract rfl rfl) ?_
  refine s_val rfl rfl (runs_assign rfl) ?_
  refine s_val rfl rfl (runs_assign rfl) ?_
  refine s_nil ?_
  refine hK5 _ _ ?_
  refine t_seq (fun K7 hK7 => ?_)
  rcases Decidable.em ((n : Int) ≤ 20) with h20 | h20
  · refine c_seqreg (fun K8 hK8 => ?_)
    refine s_val rfl rfl (runs_dt (runs_move rfl) h20) ?_
    refine s_val rfl rfl (runs_not rfl) ?_
    refine s_nil ?_
    refine hK8 _ _ ?_
    refine c_false rfl ?_
    refine c_skip ?_
    refine hK7 _ _ ?_
    refine t_seq (fun K9 hK9 => ?_)
    refine c_reg ?_
    refine s_val rfl rfl (runs_build_zeroS (xs := #[(0, 1)]) Tryd.underlying53 ty53 rfl (by kernel_rfl)) ?_
    refine s_box rfl rfl rfl ?_
    intro bt w6t e6_1 z6_1 hbt X6_1
    have s6_1_hX := hX.size
    replace hG := hG.keep X6_1 (by simp)
    replace hX : Chg w _ [] := (hX.trans X6_1).mono (by intro k hk hlt; simp at hk ⊢ <;> first | omega | grind)
    replace hRl := hRl.keep0 X6_1
    replace hbt : Blk w6t bt ([.slice none 0 0]) 53 := hbt
    have hlbt := hbt.lt
    have hT := TL.new (B := B) (lo := bt) hbt (by omega) (Nat.le_refl _)
    refine s_val rfl rfl (runs_assign rfl) ?_
    refine s_nil ?_
    refine hK9 _ _ ?_
    refine t_seq (fun K11 hK11 => ?_)
    refine c_reg ?_
    refine s_val rfl rfl (runs_move rfl) ?_
    refine s_val rfl rfl (runs_move rfl) ?_
    refine s_callf (xs := [.tmp 20, .const (.int .i64 0), .tmp 21]) rfl rfl Tryd.func15 rfl (by kernel_rfl) rfl (hT.aroot [] (by simp) hG (by omega) hlw hRl (fun p hp => .inl (by have := hal p hp; omega)) (by omega) (by simp)) ?_
    rintro _ w72 ⟨rfl, vt72, hC72⟩
    replace hG := hG.keep hC72.chg (fun k hk => by have h := hC72.ft k hk; simp [Rg] at h <;> omega)
    replace hX : Chg w _ [] := (hX.trans hC72.chg).mono (by intro k hk hlt; have h := hC72.ft k (by simpa using hk); simp [Rg] at h <;> omega)
    replace hRl := hRl.keep hC72.chg (fun p hp hm => by have h := hC72.ft _ hm; have := hal p hp; simp [Rg] at h <;> omega)
    have zs7_2 := hC72.chg.size
    have hT := hC72.tl
    refine s_alloc ty26 rfl rfl ?_
    intro b5 w73 e7_3 z7_3 hb5 X7_3
    have s7_3_hX := hX.size
    replace hG := hG.keep X7_3 (by simp)
    replace hX : Chg w _ [] := (hX.trans X7_3).mono (by intro k hk hlt; simp at hk ⊢ <;> first | omega | grind)
    replace hRl := hRl.keep0 X7_3
    replace hT := hT.keep X7_3 (by simp)
    refine s_storeAll ty26 rfl rfl rfl hb5 (by rw [natsC_length, (aroot_ok _ _).1]) rfl (natsC_one _ _) ?_
    intro w74 z7_4 h7_4 X7_4
    replace hG := hG.keep X7_4 (by simp; omega)
    replace hX : Chg w _ [] := (hX.trans X7_4).mono (by intro k hk hlt; simp at hk ⊢ <;> first | omega | grind)
    replace hT := hT.keep X7_4 (by simp [Rg] <;> omega)
    replace hb5 := h7_4
    refine s_nil ?_
    have hl5 := hb5.lt
    have hzX7 := hX.size
    refine hK11 _ _ ?_
    refine t_seq (fun K15 hK15 => ?_)
    refine c_reg ?_
    refine s_alloc ty3 rfl rfl ?_
    intro b6 w80 e8_0 z8_0 hb6 X8_0
    have s8_0_hX := hX.size
    have s8_0_hb5 := hb5.lt
    replace hG := hG.keep X8_0 (by simp)
    replace hX : Chg w _ [] := (hX.trans X8_0).mono (by intro k hk hlt; simp at hk ⊢ <;> first | omega | grind)
    replace hT := hT.keep X8_0 (by simp)
    replace hb5 := hb5.keep X8_0 (by simp)
    refine s_alloc ty47 rfl rfl ?_
    intro b7 w81 e8_1 z8_1 hb7 X8_1
    have s8_1_hX := hX.size
    have s8_1_hb5 := hb5.lt
    have s8_1_hb6 := hb6.lt
    replace hG := hG.keep X8_1 (by simp)
    replace hX : Chg w _ [] := (hX.trans X8_1).mono (by intro k hk hlt; simp at hk ⊢ <;> first | omega | grind)
    replace hT := hT.keep X8_1 (by simp)
    replace hb5 := hb5.keep X8_1 (by simp)
    replace hb6 := hb6.keep X8_1 (by simp)
    refine s_store1 ty3 rfl rfl rfl hb6 (by rfl) (by simp [Value.cells]) ?_
    intro w82 z8_2 h8_2 X8_2
    replace hG := hG.keep X8_2 (by simp; omega)
    replace hX : Chg w _ [] := (hX.trans X8_2).mono (by intro k hk hlt; simp at hk ⊢ <;> first | omega | grind)
    replace hT := hT.keep X8_2 (by simp [Rg] <;> omega)
    replace hb5 := hb5.keep X8_2 (by simp; omega)
    replace hb7 := hb7.keep X8_2 (by simp; omega)
    replace hb6 := h8_2
    refine s_store1 ty47 rfl rfl rfl hb7 (by rfl) (by simp [Value.cells]) ?_
    intro w83 z8_3 h8_3 X8_3
    replace hG := hG.keep X8_3 (by simp; omega)
    replace hX : Chg w _ [] := (hX.trans X8_3).mono (by intro k hk hlt; simp at hk ⊢ <;> first | omega | grind)
    replace hT := hT.keep X8_3 (by simp [Rg] <;> omega)
    replace hb5 := hb5.keep X8_3 (by simp; omega)
    replace hb6 := hb6.keep X8_3 (by simp; omega)
    replace hb7 := h8_3
    refine s_nil ?_
    have hl6 := hb6.lt
    have hl7 := hb7.lt
    have hzX8 := hX.size
    refine hK15 _ _ ?_
    refine t_seq2 (fun K20 hK20 => ?_)
    refine c_reg ?_
    refine s_val rfl rfl (runs_move rfl) ?_
    refine s_val rfl rfl (runs_makeFunc rfl) ?_
    refine s_nil ?_
    obtain ⟨N, hN⟩ : ∃ N, N = [] ++ Sp.anotes 0 l := ⟨_, rfl⟩
    rw [← hN] at hT
    rw [List.nil_append] at hN
    obtain ⟨w53, hw53⟩ : ∃ W : World, W = w83 := ⟨_, rfl⟩
    rw [← hw53] at hX hG hb5 hb6 hb7 hT ⊢
    have hz53 := hT.top
    have hl6 := hb6.lt
    have hl7 := hb7.lt
    have hl5 := hb5.lt
    have hzX9 := hX.size
    obtain ⟨tvs, hown2, htl, hnoted⟩ := hT.tape.own
    obtain ⟨at', ct, rfl, hR2, hRo⟩ := own_reads hown2
    have htb := hT.tape.blk
    have hnl : N.length ≤ 300000 := by rw [hN]; exact anotes_few hlw (by omega)
    have hRn : ∀ q, at' = some q → q.block ∉ [b6, b7] := fun q hq hm => by
      have h := hT.ft q.block (by simp [foot, Value.ownBlock, hq])
      simp [Rg] at h hm
      omega
    refine hK20 _ _ ?_
    refine t_range (R1 := fun W => RIS w53 W b6 b7 N tvs N.length) rfl Tryd.func24 rfl (by kernel_rfl) ?_ ?_
    · intro W1 rc fn tmps hfit hrc hl1 hD1 Y1 s1
      refine (all_calls (l := w53.heap.size + 1) (fun i W => ObjAt W (w53.heap.size + 1) (.loop rc) ∧ RIS w53 W b6 b7 N tvs i) (fun _ => False) (by rw [hrc]; rfl) (fun i W h => ⟨h.1.at_, hR2.keep h.2.chg hRn⟩) (htb.keep Y1 (by simp)) ⟨⟨hl1⟩, hb6.keep Y1 (by simp), hb7.keep Y1 (by simp), ⟨hD1⟩, Y1.mono (by simp)⟩ ?_).mono ?_
      · rintro i u W hu ⟨hl, C⟩
        subst hrc
        have hip : i < N.length := by have := (List.getElem?_eq_some_iff.1 hu).1; omega
        obtain ⟨z, hz⟩ : ∃ z, N[i]? = some z := ⟨_, List.getElem?_eq_getElem hip⟩
        obtain ⟨_, au, cu, rfl, hbu, hbun⟩ := hnoted i u z hu hz
        refine rnd_of (n := 49) (ρ := [(7, .pointer (some ⟨b7, 0, none⟩)), (6, .pointer (some ⟨b6, 0, none⟩))]) hl.at_ rfl rfl (hfit.sub ⟨rfl, rfl, trivial⟩) rfl ?_
        refine r_reg rfl ?_
        refine s_val rfl rfl (runs_assign rfl) ?_
        refine s_nil ⟨rfl, fun Wb hlb XW => ?_⟩
        have h6 := C.v6.keep XW (by simp; omega)
        have h7 := C.v7.keep XW (by simp; omega)
        have hdf := C.df.keep XW (by simp)
        have hL : ObjAt Wb (w53.heap.size + 1) _ := ⟨hlb⟩
        have hXr : Chg w53 Wb [b6, b7] := (C.chg.trans XW).mono (by intro k hk hlt; simp at hk ⊢; omega)
        have hlL := hL.lt
        have hzr := hXr.size
        replace hbu := hbu.keep hXr (fun q hq hm => by
          have h := (hbun q hq).2.2
          simp [Rg] at h hm
          omega)
        refine r_block ?_
        refine r_seq (fun K1 hK1 => ?_)
        rcases Decidable.em (z.length = 131) with h131 | h131
        rotate_left
        have htags : True := trivial
        rotate_left
        obtain ⟨z0, hz0⟩ : ∃ x, z[0]? = some x := ⟨_, List.getElem?_eq_getElem (by omega)⟩
        obtain ⟨bu, ou, rfl⟩ := hbu.some_ (by omega)
        rcases Decidable.em (z0 = 2) with hz2 | hz2
        rotate_left
        rotate_left
        · refine r_seqreg rfl (fun K2 hK2 => ?_)
          refine s_val rfl rfl (runs_move rfl) ?_
          refine s_val rfl rfl (runs_len_slice Tryd.underlying47 rfl) ?_
          refine s_val rfl rfl (runs_df (runs_eqd rfl rfl) (by omega)) ?_
          refine s_val rfl rfl (runs_move rfl) ?_
          refine s_skip rfl rfl ?_
          refine s_skip rfl rfl ?_
          refine s_skip rfl rfl ?_
          refine s_skip rfl rfl ?_
          refine s_val rfl rfl (runs_pickf rfl rfl) ?_
          refine s_nil ?_
          have hlvs : Sp.lvs N (i + 1) = Sp.lvs N i := by rw [lvs_succ hz]; simp [Sp.isLeaf, h131]
          refine hK2 _ _ ?_
          refine r_false rfl ?_
          refine r_skip ?_
          refine hK1 _ _ ?_
          refine r_reg rfl ?_
          refine s_val rfl rfl (runs_move rfl) ?_
          refine s_store1 ty47 rfl rfl rfl h7 (by rfl) (by simp) ?_
          intro wr2 z13_1 h13_1 X13_1
          replace h6 := h6.keep X13_1 (by simp; omega)
          replace hdf := hdf.keep X13_1 (by simp; omega)
          replace hL := hL.keep X13_1 (by simp; omega)
          replace hXr : Chg w53 _ [b6, b7] := (hXr.trans X13_1).mono (by intro k hk hlt; simp at hk ⊢ <;> first | omega | grind)
          replace h7 := h13_1
          refine s_nil ?_
          exact ⟨hL.at_, fun W' hl' X' => ⟨fun _ => ⟨⟨hl'⟩, ⟨by
            have := h6.keep X' (by simp; omega)
            rw [hlvs]; exact this, by
            have := h7.keep X' (by simp; omega)
            rw [if_neg (by omega), show i + 1 - 1 = i by omega, List.getD_eq_getElem?_getD, hu]
            exact this, hdf.keep X' (by simp), (hXr.trans X').mono (by intro k hk hlt; simp at hk ⊢; omega)⟩⟩, fun h => by cases h⟩⟩
        · refine r_seqreg rfl (fun K2 hK2 => ?_)
          refine s_val rfl rfl (runs_move rfl) ?_
          refine s_val rfl rfl (runs_len_slice Tryd.underlying47 rfl) ?_
          refine s_val rfl rfl (runs_dt (runs_eqd rfl rfl) (by omega)) ?_
          refine s_val rfl rfl (runs_move rfl) ?_
          refine s_val rfl rfl (runs_move rfl) ?_
          refine s_val rfl rfl (runs_index_slice (0) Tryd.underlying47 ty5 rfl rfl (by omega) (by omega)) ?_
          refine s_val rfl rfl (runs_load1 ty5 rfl (hbu.elem1 (natsC_get hz0))) ?_
          refine s_val rfl rfl (runs_dt (runs_eqd rfl rfl) (by omega)) ?_
          refine s_val rfl rfl (runs_pickt rfl rfl) ?_
          refine s_nil ?_
          have hlvs : Sp.lvs N (i + 1) = Sp.lvs N i + 1 := by rw [lvs_succ hz, show Sp.isLeaf z = true by rw [Sp.isLeaf, hz0, h131, hz2]; rfl]; rfl
          refine hK2 _ _ ?_
          refine r_true rfl ?_
          refine r_reg rfl ?_
          refine s_val rfl rfl (runs_load1 ty3 rfl (h6.c1 (j := 0) rfl)) ?_
          refine s_val rfl rfl (runs_as (v' := .int .i64 ((Sp.lvs N i + 1 : Nat) : Int)) (runs_add64 rfl rfl (by have := lvs_le N i; omega)) (congrArg (Value.int .i64) (by omega))) ?_
          refine s_store1 ty3 rfl rfl rfl h6 (by rfl) (by simp) ?_
          intro wr1 z12_2 h12_2 X12_2
          replace h7 := h7.keep X12_2 (by simp; omega)
          replace hdf := hdf.keep X12_2 (by simp; omega)
          replace hL := hL.keep X12_2 (by simp; omega)
          replace hXr : Chg w53 _ [b6, b7] := (hXr.trans X12_2).mono (by intro k hk hlt; simp at hk ⊢ <;> first | omega | grind)
          replace h6 := h12_2
          refine s_nil ?_
          refine hK1 _ _ ?_
          refine r_reg rfl ?_
          refine s_val rfl rfl (runs_move rfl) ?_
          refine s_store1 ty47 rfl rfl rfl h7 (by rfl) (by simp) ?_
          intro wr2 z13_1 h13_1 X13_1
          replace h6 := h6.keep X13_1 (by simp; omega)
          replace hdf := hdf.keep X13_1 (by simp; omega)
          replace hL := hL.keep X13_1 (by simp; omega)
          replace hXr : Chg w53 _ [b6, b7] := (hXr.trans X13_1).mono (by intro k hk hlt; simp at hk ⊢ <;> first | omega | grind)
          replace h7 := h13_1
          refine s_nil ?_
          exact ⟨hL.at_, fun W' hl' X' => ⟨fun _ => ⟨⟨hl'⟩, ⟨by
            have := h6.keep X' (by simp; omega)
            rw [hlvs]; exact this, by
            have := h7.keep X' (by simp; omega)
            rw [if_neg (by omega), show i + 1 - 1 = i by omega, List.getD_eq_getElem?_getD, hu]
            exact this, hdf.keep X' (by simp), (hXr.trans X').mono (by intro k hk hlt; simp at hk ⊢; omega)⟩⟩, fun h => by cases h⟩⟩
        · refine r_seqreg rfl (fun K2 hK2 => ?_)
          refine s_val rfl rfl (runs_move rfl) ?_
          refine s_val rfl rfl (runs_len_slice Tryd.underlying47 rfl) ?_
          refine s_val rfl rfl (runs_dt (runs_eqd rfl rfl) (by omega)) ?_
          refine s_val rfl rfl (runs_move rfl) ?_
          refine s_val rfl rfl (runs_move rfl) ?_
          refine s_val rfl rfl (runs_index_slice (0) Tryd.underlying47 ty5 rfl rfl (by omega) (by omega)) ?_
          refine s_val rfl rfl (runs_load1 ty5 rfl (hbu.elem1 (natsC_get hz0))) ?_
          refine s_val rfl rfl (runs_df (runs_eqd rfl rfl) (by omega)) ?_
          refine s_val rfl rfl (runs_pickt rfl rfl) ?_
          refine s_nil ?_
          have hlvs : Sp.lvs N (i + 1) = Sp.lvs N i := by rw [lvs_succ hz, show Sp.isLeaf z = false by rw [Sp.isLeaf, hz0]; simp [hz2]]; rfl
          refine hK2 _ _ ?_
          refine r_false rfl ?_
          refine r_skip ?_
          refine hK1 _ _ ?_
          refine r_reg rfl ?_
          refine s_val rfl rfl (runs_move rfl) ?_
          refine s_store1 ty47 rfl rfl rfl h7 (by rfl) (by simp) ?_
          intro wr2 z13_1 h13_1 X13_1
          replace h6 := h6.keep X13_1 (by simp; omega)
          replace hdf := hdf.keep X13_1 (by simp; omega)
          replace hL := hL.keep X13_1 (by simp; omega)
          replace hXr : Chg w53 _ [b6, b7] := (hXr.trans X13_1).mono (by intro k hk hlt; simp at hk ⊢ <;> first | omega | grind)
          replace h7 := h13_1
          refine s_nil ?_
          exact ⟨hL.at_, fun W' hl' X' => ⟨fun _ => ⟨⟨hl'⟩, ⟨by
            have := h6.keep X' (by simp; omega)
            rw [hlvs]; exact this, by
            have := h7.keep X' (by simp; omega)
            rw [if_neg (by omega), show i + 1 - 1 = i by omega, List.getD_eq_getElem?_getD, hu]
            exact this, hdf.keep X' (by simp), (hXr.trans X').mono (by intro k hk hlt; simp at hk ⊢; omega)⟩⟩, fun h => by cases h⟩⟩
      · rintro _ W2 (⟨h1, h2⟩ | h)
        · exact ⟨h1.at_, h2⟩
        · exact h.elim
    intro W2 w' C Z
    have hv6 := C.v6.keep Z (by simp; omega)
    have hv7 := C.v7.keep Z (by simp; omega)
    have hdf := C.df.keep Z (by simp)
    have hXr : Chg w53 w' [b6, b7] := (C.chg.trans Z).mono (by intro k hk hlt; simp at hk ⊢; omega)
    have hzr := hXr.size
    replace hX : Chg w w' [] := (hX.trans hXr).mono (by intro k hk hlt; simp at hk; omega)
    replace hG := hG.keep hXr (by simp; omega)
    replace hb5 := hb5.keep hXr (by simp; omega)
    refine c_seqdraw [] ([]) (by kernel_rfl) ?_
    intro K21 hK21 wd14 Xd14 hS14
    replace hG := hG.keep Xd14 (by simp)
    replace hX : Chg w _ [] := (hX.trans Xd14).mono (by intro k hk hlt; simp at hk ⊢ <;> first | omega | grind)
    replace hb5 := hb5.keep Xd14 (by simp)
    replace hv6 := hv6.keep Xd14 (by simp)
    replace hv7 := hv7.keep Xd14 (by simp)
    replace hdf := hdf.keep Xd14 (by simp)
    have zd14 := Xd14.size
    obtain ⟨p1, hp1, hp2⟩ := notes_last hlw
    rw [← hN] at hp1 hp2
    have hcount : Sp.lvs N N.length = l.length := by rw [Sp.lvs, List.take_of_length_le (Nat.le_refl _), hN]; exact leaves_count 129 0 l (by omega) hlw
    obtain ⟨u, hu⟩ : ∃ u, tvs[p1]? = some u := ⟨_, List.getElem?_eq_getElem (by omega)⟩
    obtain ⟨hz5, au, cu, rfl, hbu, hbun⟩ := hnoted p1 u _ hu hp2
    replace hbu := (hbu.keep hXr (fun q hq hm => by
      have h := (hbun q hq).2.2
      simp [Rg] at h hm
      omega)).grow Xd14
    rw [if_neg (by omega), show N.length - 1 = p1 by omega, List.getD_eq_getElem?_getD, hu] at hv7
    have hat := (atext_is hlw).1
    have hatl : (Sp.atext 0 l).length ≤ 1000 := by
      by_cases h2 : 2 ≤ l.length
      · rw [atext_two h2]; simp [(aroot_ok _ _).1]
      · match l, h2, hlw with
        | [], _, _ => simp [Sp.atext]
        | [x], _, hlw => simp [Sp.atext, acB_len (hlw.num x (by simp))]
        | _ :: _ :: _, h2, _ => simp at h2
    refine d_take 0 38 rfl (by kernel_rfl) rfl hS14 (fun wS hS => runs_load1 ty3 rfl ((hv6.keep hS (by simp)).c1 (j := 0) rfl)) ?_
    refine d_take 1 39 rfl (by kernel_rfl) rfl hS14 (fun wS hS => runs_move rfl) ?_
    refine d_take 2 40 rfl (by kernel_rfl) rfl hS14 (fun wS hS => runs_len_slice Tryd.underlying38 rfl) ?_
    refine d_take 3 41 rfl (by kernel_rfl) rfl hS14 (fun wS hS => runs_dt (runs_eqd rfl rfl) (by omega)) ?_
    refine d_take 4 42 rfl (by kernel_rfl) rfl hS14 (fun wS hS => runs_move rfl) ?_
    refine d_take 5 43 rfl (by kernel_rfl) rfl hS14 (fun wS hS => runs_load1 ty47 rfl ((hv7.keep hS (by simp)).c1 (j := 0) rfl)) ?_
    refine d_take 8 46 rfl (by kernel_rfl) rfl hS14 (fun wS hS => runs_loadAgg ty26 rfl ((hb5.keep hS (by simp)).at) (by rw [natsC_length, (aroot_ok _ _).1])) ?_
    refine d_only 6 rfl (by kernel_rfl) ?_
    refine s_lit (xs := [.tmp 43]) Tryd.underlying51 ty47 rfl rfl rfl rfl rfl (by simp [Value.cells]) (by decide) (by decide) ?_
    intro b44 w146 e14_6 z14_6 hb44 X14_6
    replace hS14 : Chg wd14 _ [] := hS14.trans X14_6
    refine s_nil ⟨.inr hS14, ?_⟩
    refine d_only 7 rfl (by kernel_rfl) ?_
    refine s_callf (xs := [.const (.pointer none), .tmp 44]) rfl rfl Tryd.func18 rfl (by kernel_rfl) rfl (of0 (hG.keep hS14 (by simp)) (by have := hS14.size; omega) (parts_one hb44 (hbu.keep hS14 (by simp)) hz5) (by simp; omega)) ?_
    rintro _ w147 ⟨rfl, X14_7⟩
    have zs14_7 := X14_7.size
    rw [show [Sp.atext 0 l].flatten = Sp.atext 0 l by simp, ← hat]
    replace hS14 : Chg wd14 _ [] := hS14.trans X14_7
    refine s_nil ⟨.inr hS14, ?_⟩
    refine d_take 9 47 rfl (by kernel_rfl) rfl hS14 (fun wS hS => runs_dt (runs_hv_eq rfl rfl (aroot_ok _ _) (aroot_ok _ _)) rfl) ?_
    refine d_take 10 48 rfl (by kernel_rfl) rfl hS14 (fun wS hS => runs_pickt rfl rfl) ?_
    refine d_take 11 2 rfl (by kernel_rfl) rfl hS14 (fun wS hS => runs_assign rfl) ?_
    refine d_done (by kernel_rfl) ?_
    replace hG := hG.keep hS14 (by simp)
    replace hX : Chg w _ [] := (hX.trans hS14).mono (by intro k hk hlt; simp at hk ⊢ <;> first | omega | grind)
    replace hb5 := hb5.keep hS14 (by simp)
    replace hv6 := hv6.keep hS14 (by simp)
    replace hv7 := hv7.keep hS14 (by simp)
    replace hdf := hdf.keep hS14 (by simp)
    refine hK21 _ _ ?_
    refine c_ret ?_
    dsimp only [endM]
    refine ⟨hdf.at_, fun w'' Z2 => ends1 (reads_tmp rfl) ⟨rfl, (hX.trans Z2).mono (by intro k hk hlt; simp at hk; omega)⟩⟩
  · refine c_seqreg (fun K8 hK8 => ?_)
    refine s_val rfl rfl (runs_df (runs_move rfl) h20) ?_
    refine s_val rfl rfl (runs_not rfl) ?_
    refine s_nil ?_
    refine hK8 _ _ ?_
    refine c_true rfl ?_
    refine c_seqreg (fun K24 hK24 => ?_)
    refine s_val rfl rfl (runs_assign rfl) ?_
    refine s_nil ?_
    refine hK24 _ _ ?_
    refine c_ret ?_
    dsimp only [endP]
    exact ends1 (reads_tmp rfl) ⟨rfl, hX⟩
end Go.Proofs.YtmmijecookbajaaDoor
