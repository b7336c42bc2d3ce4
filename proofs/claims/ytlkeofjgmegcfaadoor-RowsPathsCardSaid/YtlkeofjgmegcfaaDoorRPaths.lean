/- Part RPaths of the proofs on this seat. Conditions: none beyond those in the theorems. By an AI agent. -/
import Derived.Test.YtlkeofjgmegcfaaDoorRSpans
import Derived.Test.YtlkeofjgmegcfaaDoorClimb
namespace Go.Proofs.YtlkeofjgmegcfaaDoor
open Go Go.RowKit

theorem runs_max {P : Program} {ρ : Env} {w : World} {x y : Operand} {t1 t2 tyy : TypeId} {k k' : IntKind} {a b : Int} (hx : ev? ρ x = some (.int k a)) (hy : ev? ρ y = some (.int k' b)) :
    Runs P ρ (.call { callee := .builtin .max, args := #[x, y], argTypes := #[t1, t2] }) tyy w (.int k (if b > a then b else a)) w := fun ev h => by
  simp [execOp, resolve, invoke, builtin, h _ _ hx, h _ _ hy, Builtin.max_, Builtin.max2]
theorem climb0 {B : Nat} {w : World} {leaf : List Nat} {i n np cp : Nat} {a : Option Addr} {path : List (List Nat)} (g : GH B w) (b : B ≤ w.heap.size) (hlf : HOk leaf) (hH : HsR w a np cp path) (hn : n ≤ 1048576) (hnp : np ≤ 1048576) (hi : i < n) :
    CallsR Tryd.prog 21 #[.pointer none, hv leaf, .int .i64 (i : Int), .int .i64 (n : Int), .slice a np cp] w fun v w' => v = .tuple #[hv (Sp.climb leaf i n path).1, .bool (Sp.climb leaf i n path).2] ∧ Chg w w' [] :=
  (climb_calls _ path (Nat.le_refl _) B _ _ none leaf i n a np cp w (pre0 g b) hlf hH (fun _ _ => by simp [foot]) (fun p hp h0 => hH.lt h0 p hp) hn hnp hi (by simp [TS.len]; omega)).mono fun _ _ ⟨e, _, p⟩ => ⟨e, p.chg⟩
theorem tapeLen_calls {w : World} {B lo hi : Nat} {l : List Nat} {bt : Nat} {vt : Value} {L : List (List Nat)} (hT : TL w B lo hi l bt vt L) :
    CallsR Tryd.prog 20 #[.pointer (some ⟨bt, 0, none⟩)] w fun v w' => v = .int .i64 (L.length : Int) ∧ Chg w w' [] := by
  obtain ⟨vs, hov, _, _⟩ := hT.tape.own
  have hbk := hT.tape.blk
  obtain ⟨a1, c1, rfl, _, _⟩ := own_reads hov
  have hX : Chg w w [] := Chg.refl _ _
  refine f_enter (l := [.pointer (some ⟨bt, 0, none⟩)]) Tryd.func20 rfl rfl rfl rfl ?_
  intro Qf hnrm hret
  refine c_seqreg (fun K1 hK1 => ?_)
  refine s_val rfl rfl (runs_assign rfl) ?_
  refine s_nil ?_
  refine hK1 _ _ ?_
  refine c_seq (fun K2 hK2 => ?_)
  refine c_seqreg (fun K3 hK3 => ?_)
  refine s_val rfl rfl (runs_move rfl) ?_
  refine s_val rfl rfl (runs_ptr_eq_nil Tryd.underlying38 rfl rfl) ?_
  refine s_nil ?_
  refine hK3 _ _ ?_
  refine c_false rfl ?_
  refine c_skip ?_
  refine hK2 _ _ ?_
  refine c_seqreg (fun K4 hK4 => ?_)
  refine s_val rfl rfl (runs_move rfl) ?_
  refine s_val rfl rfl (runs_nilCheck rfl) ?_
  refine s_val rfl rfl (runs_fieldAddr Tryd.underlying41 rfl ty39 (by decide) rfl) ?_
  refine s_val rfl rfl (runs_load1 ty39 rfl (hbk.cell (o := 0) rfl)) ?_
  refine s_val rfl rfl (runs_len_slice Tryd.underlying39 rfl) ?_
  refine s_val rfl rfl (runs_assign rfl) ?_
  refine s_nil ?_
  refine hK4 _ _ ?_
  refine c_ret ?_
  refine hret _ _ ?_
  exact ends1 (reads_tmp rfl) ⟨rfl, hX⟩
theorem paths_len (rs : List Rw) : (rs.map (fun r => 0 :: Sp.rowB r) ++ Sp.notes (Sp.leaves rs)).length = if rs.length = 0 then 1 else 2 * rs.length - 1 := by
  rw [List.length_append, List.length_map]
  by_cases h : rs = []
  · subst h; rfl
  · have h1 : Sp.leaves rs ≠ [] := by simpa [Sp.leaves] using h
    have h2 := Sp.notes_len _ (Sp.leaves rs) (Nat.le_refl _) h1
    have h3 : 0 < rs.length := List.length_pos_iff.2 h
    have h4 : (Sp.leaves rs).length = rs.length := by simp [Sp.leaves]
    rw [if_neg (by omega)]
    omega
set_option maxHeartbeats 1000000 in
theorem paths_calls (B : Nat) (ls : List Rw) (a : Option Addr) (n c : Nat) (w : World) (hG0 : GH B w) (hBw : B ≤ w.heap.size) (hR : RowsR w a n c ls) :
    CallsR Tryd.prog 8 #[.slice a n c] w fun v w' => v = .bool true ∧ Chg w w' [] := by
  have hX : Chg w w [] := Chg.refl _ _
  have hG := hG0
  have hlen := hR.len
  refine f_enter (l := [.slice a n c]) Tryd.func8 rfl rfl rfl rfl ?_
  intro Qf hnrm hret
  refine c_seqreg (fun K1 hK1 => ?_)
  refine s_val rfl rfl (runs_assign rfl) ?_
  refine s_nil ?_
  refine hK1 _ _ ?_
  refine c_seq (fun K2 hK2 => ?_)
  refine c_seqreg (fun K3 hK3 => ?_)
  refine s_callf (xs := []) rfl rfl Tryd.func9 rfl (by kernel_rfl) rfl (fitR_calls B _ hG (by omega)) ?_
  rintro _ w1 ⟨rfl, X1_0, hG'⟩
  replace hG := hG.keep X1_0 (by simp)
  replace hX : Chg w _ [] := (hX.trans X1_0).mono (by intro k hk hlt; simp at hk ⊢ <;> first | omega | grind)
  have zs1_0 := X1_0.size
  refine s_val rfl rfl (runs_not rfl) ?_
  refine s_nil ?_
  refine hK3 _ _ ?_
  refine c_false rfl ?_
  refine c_skip ?_
  refine hK2 _ _ ?_
  refine c_seq (fun K5 hK5 => ?_)
  refine c_seqreg (fun K6 hK6 => ?_)
  refine s_val rfl rfl (runs_move rfl) ?_
  refine s_val rfl rfl (runs_len_slice Tryd.underlying22 rfl) ?_
  refine s_val rfl rfl (runs_gt rfl rfl) ?_
  refine s_nil ?_
  refine hK6 _ _ ?_
  refine c_dec rfl (fun h30 => ?_) (fun h30 => ?_)
  · refine c_seqreg (fun K7 hK7 => ?_)
    refine s_val rfl rfl (runs_assign rfl) ?_
    refine s_nil ?_
    refine hK7 _ _ ?_
    refine c_ret ?_
    refine hret _ _ ?_
    exact ends1 (reads_tmp rfl) ⟨rfl, hX⟩
  · refine c_skip ?_
    refine hK5 _ _ ?_
    refine c_seqreg (fun K8 hK8 => ?_)
    refine s_val rfl rfl (runs_move rfl) ?_
    refine s_callf (xs := [.tmp 16]) rfl rfl Tryd.func10 rfl (by kernel_rfl) rfl (list_calls B ls _ _ _ _ hG (by omega) (hR.grow hX) (by omega)) ?_
    rintro _ w5 ⟨bx, v1, v2, rfl, hL, X5_1, hG5⟩
    replace hG := hG.keep X5_1 (by simp)
    replace hX : Chg w _ [] := (hX.trans X5_1).mono (by intro k hk hlt; simp at hk ⊢ <;> first | omega | grind)
    have zs5_1 := X5_1.size
    have hlsl : (Sp.mkR ls).length = n := by rw [mkR_len, hlen]
    obtain ⟨rs, hrs⟩ : ∃ rs, rs = Sp.mkR ls := ⟨_, rfl⟩
    rw [← hrs] at hL hlsl
    obtain ⟨hxh, hhx⟩ : ∃ k, k = w5.heap.size := ⟨_, rfl⟩
    rw [← hhx] at hL
    have rsok := hL.ok
    have hro := root_ok _ _ (Nat.le_refl _) (leavesR_ok rs)
    have hsl : (Sp.leaves rs).length = n := by simp [Sp.leaves, hlsl]
    have hpl := paths_len rs
    refine s_val rfl rfl (runs_assign rfl) ?_
    refine s_nil ?_
    refine hK8 _ _ ?_
    refine c_seqreg (fun K10 hK10 => ?_)
    refine s_val rfl rfl (runs_build_zeroS (xs := #[(0, 1)]) Tryd.underlying41 ty41 rfl (by kernel_rfl)) ?_
    refine s_box rfl rfl rfl ?_
    intro bt w6t e6_1 z6_1 hbt X6_1
    have s6_1_hX := hX.size
    replace hG := hG.keep X6_1 (by simp)
    replace hX : Chg w _ [] := (hX.trans X6_1).mono (by intro k hk hlt; simp at hk ⊢ <;> first | omega | grind)
    replace hL := hL.keep X6_1 (by simp)
    replace hbt : Blk w6t bt ([.slice none 0 0]) 41 := hbt
    have hlbt := hbt.lt
    have hT := TL.new (B := B) (lo := bt) hbt (by omega) (Nat.le_refl _)
    refine s_val rfl rfl (runs_assign rfl) ?_
    refine s_nil ?_
    have htopx := hL.top
    refine hK10 _ _ ?_
    refine c_seqreg (fun K12 hK12 => ?_)
    refine s_val rfl rfl (runs_move rfl) ?_
    refine s_val rfl rfl (runs_move rfl) ?_
    refine s_callf (xs := [.tmp 20, .tmp 21]) rfl rfl Tryd.func17 rfl (by kernel_rfl) rfl (hT.lsRoot [] (by simp) hG (by omega) hL (by omega) (by omega) (by simp; omega)) ?_
    rintro _ w7 ⟨rfl, vt7, hC7⟩
    replace hG := hG.keep hC7.chg (fun k hk => by have h := hC7.ft k hk; simp [Rg] at h <;> omega)
    replace hX : Chg w _ [] := (hX.trans hC7.chg).mono (by intro k hk hlt; have h := hC7.ft k (by simpa using hk); simp [Rg] at h <;> omega)
    replace hL := hL.keep hC7.chg (fun k hk => .inr (by have h := hC7.ft k hk; simp [Rg] at h; omega))
    have zs7_2 := hC7.chg.size
    have hT := hC7.tl
    obtain ⟨hti, hhti⟩ : ∃ k, k = w7.heap.size := ⟨_, rfl⟩
    rw [← hhti] at hT
    refine s_alloc ty43 rfl rfl ?_
    intro b7 w73a e7_3 z7_3 hb7 X7_3
    have s7_3_hX := hX.size
    replace hG := hG.keep X7_3 (by simp)
    replace hX : Chg w _ [] := (hX.trans X7_3).mono (by intro k hk hlt; simp at hk ⊢ <;> first | omega | grind)
    replace hL := hL.keep X7_3 (by simp)
    replace hT := hT.keep X7_3 (by simp)
    refine s_storeAll ty43 rfl rfl rfl hb7 (by rw [natsC_length, hro.1]) rfl (natsC_one _ _) ?_
    intro w73s z7_4 h7_4 X7_4
    replace hG := hG.keep X7_4 (by simp; omega)
    replace hX : Chg w _ [] := (hX.trans X7_4).mono (by intro k hk hlt; simp at hk ⊢ <;> first | omega | grind)
    replace hL := hL.keep X7_4 (by simp; omega)
    replace hT := hT.keep X7_4 (by simp [Rg] <;> omega)
    replace hb7 := h7_4
    refine s_nil ?_
    have hl7 := hb7.lt
    obtain ⟨hk9, hhk9⟩ : ∃ k, k = w73s.heap.size := ⟨_, rfl⟩
    refine hK12 _ _ ?_
    refine c_seqreg (fun K16 hK16 => ?_)
    refine s_val rfl rfl (runs_assign rfl) ?_
    refine s_nil ?_
    refine hK16 _ _ ?_
    refine c_seq (fun K17 hK17 => ?_)
    refine c_seqreg (fun K18 hK18 => ?_)
    refine s_val rfl rfl (runs_move rfl) ?_
    refine s_callf (xs := [.tmp 23]) rfl rfl Tryd.func12 rfl (by kernel_rfl) rfl (lsLen_calls hL) ?_
    rintro _ w9 ⟨rfl, X9_1⟩
    replace hG := hG.keep X9_1 (by simp)
    replace hX : Chg w _ [] := (hX.trans X9_1).mono (by intro k hk hlt; simp at hk ⊢ <;> first | omega | grind)
    replace hL := hL.keep X9_1 (by simp)
    replace hT := hT.keep X9_1 (by simp)
    replace hb7 := hb7.keep X9_1 (by simp)
    have zs9_1 := X9_1.size
    rw [hlsl]
    refine s_val rfl rfl (runs_move rfl) ?_
    refine s_nil ?_
    have hzX9 := hX.size
    refine hK18 _ _ ?_
    refine c_block ?_
    refine c_loop (σ := Nat × Value) (fun s => [(25, .int .i64 (s.1 : Int)), (6, s.2), (24, .int .i64 (n : Int)), (4, .pointer (some ⟨bt, 0, none⟩)), (3, .pointer (some ⟨bx, 0, none⟩)), (5, .pointer (some ⟨b7, 0, none⟩)), (0, .slice a n c)]) (fun s W => s.1 ≤ n ∧ W.ownsRow hk9 43 32 s.2 s.1 (natsC .u8 (Sp.leaves (rs.take s.1)).flatten) ∧ GH B W ∧ LsV W w1.heap.size hxh bx v1 v2 rs ∧ TL W B bt hti [] bt vt7 ([] ++ (rs.map (fun r => 0 :: Sp.rowB r) ++ Sp.notes (Sp.leaves rs))) ∧ Blk W b7 (natsC .u8 (Sp.root (Sp.leaves rs))) 43 ∧ Chg w W [] ∧ hk9 ≤ W.heap.size) (fun s => n - s.1) (0, .slice none 0 0) ⟨rfl, rfl, rfl, rfl, rfl, rfl, rfl, trivial⟩ ⟨Nat.zero_le _, World.ownsRow_nil _ _ _ _, hG, hL, hT, hb7, hX, by omega⟩ ?_
    rintro ⟨i, v6⟩ wi ⟨hi, hown, hG, hL, hT, hb7, hX, hzk⟩
    dsimp only at hi hown ⊢
    have hzX := hX.size
    have htl := hT.top
    refine c_seqreg (fun K20 hK20 => ?_)
    refine s_val rfl rfl (runs_lt rfl rfl) ?_
    refine s_nil ?_
    refine hK20 _ _ ?_
    refine c_seq (fun K21 hK21 => ?_)
    refine c_dec rfl (fun hin => ?_) (fun hin => ?_)
    · obtain ⟨r, hr⟩ : ∃ r, rs[i]? = some r := ⟨_, List.getElem?_eq_getElem (by omega)⟩
      have hor := rsok r (List.mem_of_getElem? hr)
      refine c_skip ?_
      refine hK21 _ _ ?_
      refine c_seq (fun K22 hK22 => ?_)
      refine c_block ?_
      refine c_seqreg (fun K23 hK23 => ?_)
      refine s_val rfl rfl (runs_move rfl) ?_
      refine s_val rfl rfl (runs_assign rfl) ?_
      refine s_nil ?_
      refine hK23 _ _ ?_
      refine c_reg ?_
      refine s_val rfl rfl (runs_move rfl) ?_
      refine s_val rfl rfl (runs_move rfl) ?_
      refine s_val rfl rfl (runs_move rfl) ?_
      refine s_callf (xs := [.tmp 29, .tmp 30]) rfl rfl Tryd.func13 rfl (by kernel_rfl) rfl (lsAt_calls hL i r hr) ?_
      rintro _ w123 ⟨rfl, X12_3⟩
      replace hG := hG.keep X12_3 (by simp)
      replace hX : Chg w _ [] := (hX.trans X12_3).mono (by intro k hk hlt; simp at hk ⊢ <;> first | omega | grind)
      replace hL := hL.keep X12_3 (by simp)
      replace hT := hT.keep X12_3 (by simp)
      replace hb7 := hb7.keep X12_3 (by simp)
      replace hown := own_keep hown X12_3 (by simp)
      have zs12_3 := X12_3.size
      refine s_callf (xs := [.const (.pointer none), .tmp 31]) rfl rfl Tryd.func14 rfl (by kernel_rfl) rfl (rowLeaf0 r hG (by omega) hor) ?_
      rintro _ w124 ⟨rfl, X12_4⟩
      replace hG := hG.keep X12_4 (by simp)
      replace hX : Chg w _ [] := (hX.trans X12_4).mono (by intro k hk hlt; simp at hk ⊢ <;> first | omega | grind)
      replace hL := hL.keep X12_4 (by simp)
      replace hT := hT.keep X12_4 (by simp)
      replace hb7 := hb7.keep X12_4 (by simp)
      replace hown := own_keep hown X12_4 (by simp)
      have zs12_4 := X12_4.size
      refine s_lit (xs := [.tmp 32]) Tryd.underlying51 ty43 rfl rfl rfl rfl rfl (hv_sz (l := [Sp.rleaf r]) (by simpa using rleaf_ok _)) (by decide) (by decide) ?_
      intro b33 w125 e12_5 z12_5 hb33 X12_5
      have s12_5_hX := hX.size
      have s12_5_hb7 := hb7.lt
      replace hG := hG.keep X12_5 (by simp)
      replace hX : Chg w _ [] := (hX.trans X12_5).mono (by intro k hk hlt; simp at hk ⊢ <;> first | omega | grind)
      replace hL := hL.keep X12_5 (by simp)
      replace hT := hT.keep X12_5 (by simp)
      replace hb7 := hb7.keep X12_5 (by simp)
      replace hown := own_keep hown X12_5 (by simp)
      refine s_append Tryd.underlying51 ty43 rfl (by decide) rfl rfl rfl hown rfl (hs_lit [Sp.rleaf r] hb33 (by simpa using rleaf_ok _) rfl).rd (natsC_one _ _) (by simp only [maxLen]; omega) (by omega) (by omega) ?_
      intro v126 w126 H12_6 X12_6 F12_6
      replace hG := hG.keep X12_6 (fun k hm => by have := (hown.lt k (by simpa using hm)).1; omega)
      replace hX : Chg w _ [] := (hX.trans X12_6).mono (by intro k hk hlt; simp at hk; have := (hown.lt k hk).1; omega)
      replace hL := hL.keep X12_6 (fun k hk => .inr (by have := (hown.lt k (by simpa using hk)).1; omega))
      replace hT := hT.keep X12_6 (fun k hk h => by have := (hown.lt k (by simpa using hk)).1; have := h.2.1; omega)
      replace hb7 := hb7.keep X12_6 (fun hm => by have := (hown.lt _ (by simpa using hm)).1; omega)
      have hown := H12_6
      replace hown : w126.ownsRow hk9 43 32 v126 (i + 1) (natsC .u8 (Sp.leaves (rs.take (i + 1))).flatten) := by
        rw [List.take_add_one, hr]; simpa [Sp.leaves, natsC_append] using hown
      refine s_val rfl rfl (runs_assign rfl) ?_
      refine s_nil ?_
      refine hK22 _ _ ?_
      refine c_reg ?_
      refine s_val rfl rfl (runs_add64 rfl rfl (by omega)) ?_
      refine s_val rfl rfl (runs_move rfl) ?_
      refine s_nil ?_
      dsimp only [Post.setN]
      exact ⟨(i + 1, v126), ⟨rfl, rfl, rfl, rfl, rfl, rfl, rfl, trivial⟩, ⟨by dsimp only; omega, hown, hG, hL, hT, hb7, hX, by have := X12_3.size; have := X12_4.size; have := X12_5.size; have := X12_6.size; omega⟩, by dsimp only; omega⟩
    · have hin' : rs.take i = rs := List.take_of_length_le (by omega)
      rw [hin'] at hown
      obtain rfl : n = i := by omega
      obtain ⟨ah, ch, rfl, hH, hob⟩ := own_hs hown (leavesR_ok rs) hsl
      refine c_exit ?_
      refine hK17 _ _ ?_
      refine c_seq (fun K28 hK28 => ?_)
      refine c_seqdraw [] ([]) (by kernel_rfl) ?_
      intro K29 hK29 wd14 Xd14 hS14
      replace hG := hG.keep Xd14 (by simp)
      replace hX : Chg w _ [] := (hX.trans Xd14).mono (by intro k hk hlt; simp at hk ⊢ <;> first | omega | grind)
      replace hL := hL.keep Xd14 (by simp)
      replace hT := hT.keep Xd14 (by simp)
      replace hb7 := hb7.keep Xd14 (by simp)
      replace hown := own_keep hown Xd14 (by simp)
      have zd14 := Xd14.size
      obtain ⟨_, _, e14, hH, _⟩ := own_hs hown (leavesR_ok rs) hsl
      cases e14
      refine d_take 0 36 rfl (by kernel_rfl) rfl hS14 (fun wS hS => runs_loadAgg ty43 rfl ((hb7.keep hS (by simp)).at) (by rw [natsC_length, hro.1])) ?_
      refine d_take 1 37 rfl (by kernel_rfl) rfl hS14 (fun wS hS => runs_move rfl) ?_
      refine d_only 2 rfl (by kernel_rfl) ?_
      refine s_callf (xs := [.const (.pointer none), .tmp 37]) rfl rfl Tryd.func19 rfl (by kernel_rfl) rfl (root0 (hG.keep hS14 (by simp)) (by have := hS14.size; omega) (hH.keep0 hS14) (by omega)) ?_
      rintro _ w142 ⟨rfl, X14_2⟩
      have zs14_2 := X14_2.size
      replace hS14 : Chg wd14 _ [] := hS14.trans X14_2
      refine s_nil ⟨.inr hS14, ?_⟩
      refine d_take 3 39 rfl (by kernel_rfl) rfl hS14 (fun wS hS => runs_df (runs_hv_ne rfl rfl hro hro) (fun h => h rfl)) ?_
      refine d_take 4 40 rfl (by kernel_rfl) rfl hS14 (fun wS hS => runs_move rfl) ?_
      refine d_take 5 41 rfl (by kernel_rfl) rfl hS14 (fun wS hS => runs_move rfl) ?_
      refine d_take 7 43 rfl (by kernel_rfl) rfl hS14 (fun wS hS => runs_loadAgg ty43 rfl ((hb7.keep hS (by simp)).at) (by rw [natsC_length, hro.1])) ?_
      refine d_only 6 rfl (by kernel_rfl) ?_
      refine s_callf (xs := [.tmp 41, .const (.pointer none)]) rfl rfl Tryd.func17 rfl (by kernel_rfl) rfl (lsRoot0 (hL.keep hS14 (by simp)) (hG.keep hS14 (by simp)) (by have := hS14.size; omega) (by omega)) ?_
      rintro _ w146 ⟨rfl, X14_6⟩
      have zs14_6 := X14_6.size
      replace hS14 : Chg wd14 _ [] := hS14.trans X14_6
      refine s_nil ⟨.inr hS14, ?_⟩
      refine d_take 8 44 rfl (by kernel_rfl) rfl hS14 (fun wS hS => runs_df (runs_hv_ne rfl rfl hro hro) (fun h => h rfl)) ?_
      refine d_take 9 45 rfl (by kernel_rfl) rfl hS14 (fun wS hS => runs_pickf rfl rfl) ?_
      refine d_take 10 46 rfl (by kernel_rfl) rfl hS14 (fun wS hS => runs_move rfl) ?_
      refine d_take 11 47 rfl (by kernel_rfl) rfl hS14 (fun wS hS => runs_move rfl) ?_
      refine d_take 13 49 rfl (by kernel_rfl) rfl hS14 (fun wS hS => runs_move rfl) ?_
      refine d_take 14 50 rfl (by kernel_rfl) rfl hS14 (fun wS hS => runs_len_slice Tryd.underlying22 rfl) ?_
      refine d_take 15 51 rfl (by kernel_rfl) rfl hS14 (fun wS hS => runs_mul64 rfl rfl (by omega)) ?_
      refine d_take 16 52 rfl (by kernel_rfl) rfl hS14 (fun wS hS => runs_sub64 rfl rfl (by omega)) ?_
      refine d_take 17 53 rfl (by kernel_rfl) rfl hS14 (fun wS hS => runs_max rfl rfl) ?_
      refine d_only 12 rfl (by kernel_rfl) ?_
      refine s_callf (xs := [.tmp 47]) rfl rfl Tryd.func20 rfl (by kernel_rfl) rfl (tapeLen_calls (hT.keep0 hS14)) ?_
      rintro _ w1412 ⟨rfl, X14_12⟩
      have zs14_12 := X14_12.size
      rw [List.nil_append, hpl]
      replace hS14 : Chg wd14 _ [] := hS14.trans X14_12
      refine s_nil ⟨.inr hS14, ?_⟩
      refine d_take 18 54 rfl (by kernel_rfl) rfl hS14 (fun wS hS => runs_df (runs_ned rfl rfl) (fun h => h (by rw [hlsl]; split <;> split <;> omega))) ?_
      refine d_take 19 55 rfl (by kernel_rfl) rfl hS14 (fun wS hS => runs_pickf rfl rfl) ?_
      refine d_done (by kernel_rfl) ?_
      replace hG := hG.keep hS14 (by simp)
      replace hX : Chg w _ [] := (hX.trans hS14).mono (by intro k hk hlt; simp at hk ⊢ <;> first | omega | grind)
      replace hL := hL.keep hS14 (by simp)
      replace hT := hT.keep hS14 (by simp)
      replace hb7 := hb7.keep hS14 (by simp)
      replace hown := own_keep hown hS14 (by simp)
      refine hK29 _ _ ?_
      refine c_false rfl ?_
      refine c_skip ?_
      refine hK28 _ _ ?_
      refine c_seq (fun K33 hK33 => ?_)
      refine c_seqreg (fun K34 hK34 => ?_)
      refine s_val rfl rfl (runs_move rfl) ?_
      refine s_callf (xs := [.tmp 56]) rfl rfl Tryd.func12 rfl (by kernel_rfl) rfl (lsLen_calls hL) ?_
      rintro _ w16 ⟨rfl, X16_1⟩
      replace hG := hG.keep X16_1 (by simp)
      replace hX : Chg w _ [] := (hX.trans X16_1).mono (by intro k hk hlt; simp at hk ⊢ <;> first | omega | grind)
      replace hL := hL.keep X16_1 (by simp)
      replace hT := hT.keep X16_1 (by simp)
      replace hb7 := hb7.keep X16_1 (by simp)
      replace hown := own_keep hown X16_1 (by simp)
      have zs16_1 := X16_1.size
      rw [hlsl]
      refine s_val rfl rfl (runs_move rfl) ?_
      refine s_nil ?_
      have hzX16 := hX.size
      refine hK34 _ _ ?_
      refine c_block ?_
      refine c_loop (σ := Nat) (fun j => [(58, .int .i64 (j : Int)), (6, .slice ah n ch), (57, .int .i64 (n : Int)), (3, .pointer (some ⟨bx, 0, none⟩)), (5, .pointer (some ⟨b7, 0, none⟩)), (0, .slice a n c)]) (fun j W => j ≤ n ∧ W.ownsRow hk9 43 32 (.slice ah n ch) n (natsC .u8 (Sp.leaves rs).flatten) ∧ GH B W ∧ LsV W w1.heap.size hxh bx v1 v2 rs ∧ Blk W b7 (natsC .u8 (Sp.root (Sp.leaves rs))) 43 ∧ Chg w W []) (fun j => n - j) 0 ⟨rfl, rfl, rfl, rfl, rfl, rfl, trivial⟩ ⟨Nat.zero_le _, hown, hG, hL, hb7, hX⟩ ?_
      rintro j wj ⟨hj, hown, hG, hL, hb7, hX⟩
      have hzX := hX.size
      refine c_seqreg (fun K36 hK36 => ?_)
      refine s_val rfl rfl (runs_lt rfl rfl) ?_
      refine s_nil ?_
      refine hK36 _ _ ?_
      refine c_seq (fun K37 hK37 => ?_)
      refine c_dec rfl (fun hjn => ?_) (fun hjn => ?_)
      · obtain ⟨r, hr⟩ : ∃ r, rs[j]? = some r := ⟨_, List.getElem?_eq_getElem (by omega)⟩
        have hx : (Sp.leaves rs)[j]? = some (Sp.rleaf r) := by rw [Sp.leaves, List.getElem?_map, hr]; rfl
        have hcp := Sp.climb_path _ _ j _ (Nat.le_refl _) hx
        rw [hsl] at hcp
        have hpl2 := Sp.path_len (Sp.leaves rs) j
        rw [hsl] at hpl2
        refine c_skip ?_
        refine hK37 _ _ ?_
        refine c_seq (fun K38 hK38 => ?_)
        refine c_block ?_
        refine c_seqreg (fun K39 hK39 => ?_)
        refine s_val rfl rfl (runs_move rfl) ?_
        refine s_val rfl rfl (runs_assign rfl) ?_
        refine s_nil ?_
        refine hK39 _ _ ?_
        refine c_seqdraw [] ([]) (by kernel_rfl) ?_
        intro K40 hK40 wd19 Xd19 hS19
        replace hG := hG.keep Xd19 (by simp)
        replace hX : Chg w _ [] := (hX.trans Xd19).mono (by intro k hk hlt; simp at hk ⊢ <;> first | omega | grind)
        replace hL := hL.keep Xd19 (by simp)
        replace hb7 := hb7.keep Xd19 (by simp)
        replace hown := own_keep hown Xd19 (by simp)
        have zd19 := Xd19.size
        obtain ⟨_, _, e19, hH, _⟩ := own_hs hown (leavesR_ok rs) hsl
        cases e19
        obtain ⟨bh, oh, rfl⟩ := hH.rd.some_ (by omega)
        refine d_take 0 62 rfl (by kernel_rfl) rfl hS19 (fun wS hS => runs_move rfl) ?_
        refine d_take 1 63 rfl (by kernel_rfl) rfl hS19 (fun wS hS => runs_move rfl) ?_
        refine d_take 2 64 rfl (by kernel_rfl) rfl hS19 (fun wS hS => runs_index_slice (j) Tryd.underlying51 ty43 rfl rfl (by omega) (by omega)) ?_
        refine d_take 3 65 rfl (by kernel_rfl) rfl hS19 (fun wS hS => runs_loadAgg ty43 rfl ((hH.keep0 hS).elem hx) (by rw [natsC_length, (rleaf_ok r).1])) ?_
        refine d_take 4 66 rfl (by kernel_rfl) rfl hS19 (fun wS hS => runs_move rfl) ?_
        refine d_take 5 67 rfl (by kernel_rfl) rfl hS19 (fun wS hS => runs_move rfl) ?_
        refine d_take 6 68 rfl (by kernel_rfl) rfl hS19 (fun wS hS => runs_len_slice Tryd.underlying22 rfl) ?_
        refine d_take 7 69 rfl (by kernel_rfl) rfl hS19 (fun wS hS => runs_move rfl) ?_
        refine d_take 8 70 rfl (by kernel_rfl) rfl hS19 (fun wS hS => runs_move rfl) ?_
        refine d_two 9 14 rfl rfl (by kernel_rfl) ?_ ?_
        · refine s_callf (xs := [.tmp 69, .tmp 70]) rfl rfl Tryd.func22 rfl (by kernel_rfl) rfl (lsPath_calls (hL.keep hS19 (by simp)) (hG.keep hS19 (by simp)) (by have := hS19.size; omega) j (by omega) (by omega)) ?_
          rintro vp w199 ⟨hovp, X19_9⟩
          have zs19_9 := X19_9.size
          obtain ⟨ap, cp, rfl, hHp, hobp⟩ := own_hs hovp (path_ok _ (Sp.leaves rs) j (Nat.le_refl _) (leavesR_ok rs)) rfl
          replace hS19 : Chg wd19 _ [] := hS19.trans X19_9
          refine s_nil ⟨.inr hS19, ?_⟩
          refine d_two 10 14 rfl rfl (by kernel_rfl) ?_ ?_
          · refine s_callf (xs := [.const (.pointer none), .tmp 65, .tmp 66, .tmp 68, .tmp 71]) rfl rfl Tryd.func21 rfl (by kernel_rfl) rfl (climb0 (hG.keep hS19 (by simp)) (by have := hS19.size; omega) (rleaf_ok r) hHp (by omega) (by change (Sp.path (Sp.leaves rs) j).length ≤ _; omega) (by omega)) ?_
            rintro _ w1910 ⟨rfl, X19_10⟩
            have zs19_10 := X19_10.size
            rw [show Sp.climb (Sp.rleaf r) j n (Sp.path (rs.map Sp.rleaf) j) = (Sp.root (Sp.leaves rs), true) from hcp]
            replace hS19 : Chg wd19 _ [] := hS19.trans X19_10
            refine s_nil ⟨.inr hS19, ?_⟩
            refine d_take 11 61 rfl (by kernel_rfl) rfl hS19 (fun wS hS => runs_move rfl) ?_
            refine d_take 12 73 rfl (by kernel_rfl) rfl hS19 (fun wS hS => runs_extract rfl rfl) ?_
            refine d_take 13 74 rfl (by kernel_rfl) rfl hS19 (fun wS hS => runs_extract rfl rfl) ?_
            refine d_only 14 rfl (by kernel_rfl) ?_
            refine s_alloc ty43 rfl rfl ?_
            intro b9 w1914 e19_14 z19_14 hb9 X19_14
            have hb9lo : wd19.heap.size ≤ b9 := by have := hS19.size; omega
            replace hS19 : Chg wd19 _ [] := hS19.trans X19_14
            refine s_nil ⟨.inr hS19, ?_⟩
            refine d_only 15 rfl (by kernel_rfl) ?_
            refine s_storeAll ty43 rfl rfl rfl hb9 (by rw [natsC_length, hro.1]) rfl (natsC_one _ _) ?_
            intro w1915 z19_15 h19_15 X19_15
            replace hb9 := h19_15
            replace hS19 : Chg wd19 _ [] := (hS19.trans X19_15).mono (by intro k hk hlt; simp at hk; omega)
            refine s_nil ⟨.inr hS19, ?_⟩
            refine d_take 16 10 rfl (by kernel_rfl) rfl hS19 (fun wS hS => runs_assign rfl) ?_
            refine d_done (by kernel_rfl) ?_
            replace hG := hG.keep hS19 (by simp)
            replace hX : Chg w _ [] := (hX.trans hS19).mono (by intro k hk hlt; simp at hk ⊢ <;> first | omega | grind)
            replace hL := hL.keep hS19 (by simp)
            replace hb7 := hb7.keep hS19 (by simp)
            replace hown := own_keep hown hS19 (by simp)
            refine hK40 _ _ ?_
            refine c_seqreg (fun K45 hK45 => ?_)
            refine s_val rfl rfl (runs_move rfl) ?_
            refine s_val rfl rfl (runs_not rfl) ?_
            refine s_val rfl rfl (runs_move rfl) ?_
            refine s_val rfl rfl (runs_loadAgg ty43 rfl hb9.at (by rw [natsC_length, hro.1])) ?_
            refine s_val rfl rfl (runs_loadAgg ty43 rfl hb7.at (by rw [natsC_length, hro.1])) ?_
            refine s_val rfl rfl (runs_df (runs_hv_ne rfl rfl hro hro) (fun h => h rfl)) ?_
            refine s_val rfl rfl (runs_pickf rfl rfl) ?_
            refine s_nil ?_
            refine hK45 _ _ ?_
            refine c_false rfl ?_
            refine c_skip ?_
            refine hK38 _ _ ?_
            refine c_reg ?_
            refine s_val rfl rfl (runs_add64 rfl rfl (by omega)) ?_
            refine s_val rfl rfl (runs_move rfl) ?_
            refine s_nil ?_
            dsimp only [Post.setN]
            exact ⟨j + 1, ⟨rfl, rfl, rfl, rfl, rfl, rfl, trivial⟩, ⟨by omega, hown, hG, hL, hb7, hX⟩, by omega⟩
          · refine s_alloc ty43 rfl rfl ?_
            intro b9 w1914 e19_14 z19_14 hb9 X19_14
            replace hHp := hHp.keep0 X19_14
            have hb9lo : wd19.heap.size ≤ b9 := by have := hS19.size; omega
            replace hS19 : Chg wd19 _ [] := hS19.trans X19_14
            refine s_nil ⟨.inr hS19, ?_⟩
            refine d_only 10 rfl (by kernel_rfl) ?_
            refine s_callf (xs := [.const (.pointer none), .tmp 65, .tmp 66, .tmp 68, .tmp 71]) rfl rfl Tryd.func21 rfl (by kernel_rfl) rfl (climb0 (hG.keep hS19 (by simp)) (by have := hS19.size; omega) (rleaf_ok r) hHp (by omega) (by change (Sp.path (Sp.leaves rs) j).length ≤ _; omega) (by omega)) ?_
            rintro _ w1910 ⟨rfl, X19_10⟩
            replace hb9 := hb9.keep X19_10 (by simp)
            have zs19_10 := X19_10.size
            rw [show Sp.climb (Sp.rleaf r) j n (Sp.path (rs.map Sp.rleaf) j) = (Sp.root (Sp.leaves rs), true) from hcp]
            replace hS19 : Chg wd19 _ [] := hS19.trans X19_10
            refine s_nil ⟨.inr hS19, ?_⟩
            refine d_take 11 61 rfl (by kernel_rfl) rfl hS19 (fun wS hS => runs_move rfl) ?_
            refine d_take 12 73 rfl (by kernel_rfl) rfl hS19 (fun wS hS => runs_extract rfl rfl) ?_
            refine d_take 13 74 rfl (by kernel_rfl) rfl hS19 (fun wS hS => runs_extract rfl rfl) ?_
            refine d_only 15 rfl (by kernel_rfl) ?_
            refine s_storeAll ty43 rfl rfl rfl hb9 (by rw [natsC_length, hro.1]) rfl (natsC_one _ _) ?_
            intro w1915 z19_15 h19_15 X19_15
            replace hb9 := h19_15
            replace hS19 : Chg wd19 _ [] := (hS19.trans X19_15).mono (by intro k hk hlt; simp at hk; omega)
            refine s_nil ⟨.inr hS19, ?_⟩
            refine d_take 16 10 rfl (by kernel_rfl) rfl hS19 (fun wS hS => runs_assign rfl) ?_
            refine d_done (by kernel_rfl) ?_
            replace hG := hG.keep hS19 (by simp)
            replace hX : Chg w _ [] := (hX.trans hS19).mono (by intro k hk hlt; simp at hk ⊢ <;> first | omega | grind)
            replace hL := hL.keep hS19 (by simp)
            replace hb7 := hb7.keep hS19 (by simp)
            replace hown := own_keep hown hS19 (by simp)
            refine hK40 _ _ ?_
            refine c_seqreg (fun K49 hK49 => ?_)
            refine s_val rfl rfl (runs_move rfl) ?_
            refine s_val rfl rfl (runs_not rfl) ?_
            refine s_val rfl rfl (runs_move rfl) ?_
            refine s_val rfl rfl (runs_loadAgg ty43 rfl hb9.at (by rw [natsC_length, hro.1])) ?_
            refine s_val rfl rfl (runs_loadAgg ty43 rfl hb7.at (by rw [natsC_length, hro.1])) ?_
            refine s_val rfl rfl (runs_df (runs_hv_ne rfl rfl hro hro) (fun h => h rfl)) ?_
            refine s_val rfl rfl (runs_pickf rfl rfl) ?_
            refine s_nil ?_
            refine hK49 _ _ ?_
            refine c_false rfl ?_
            refine c_skip ?_
            refine hK38 _ _ ?_
            refine c_reg ?_
            refine s_val rfl rfl (runs_add64 rfl rfl (by omega)) ?_
            refine s_val rfl rfl (runs_move rfl) ?_
            refine s_nil ?_
            dsimp only [Post.setN]
            exact ⟨j + 1, ⟨rfl, rfl, rfl, rfl, rfl, rfl, trivial⟩, ⟨by omega, hown, hG, hL, hb7, hX⟩, by omega⟩
        · refine s_alloc ty43 rfl rfl ?_
          intro b9 w1914 e19_14 z19_14 hb9 X19_14
          have hb9lo : wd19.heap.size ≤ b9 := by have := hS19.size; omega
          replace hS19 : Chg wd19 _ [] := hS19.trans X19_14
          refine s_nil ⟨.inr hS19, ?_⟩
          refine d_only 9 rfl (by kernel_rfl) ?_
          refine s_callf (xs := [.tmp 69, .tmp 70]) rfl rfl Tryd.func22 rfl (by kernel_rfl) rfl (lsPath_calls (hL.keep hS19 (by simp)) (hG.keep hS19 (by simp)) (by have := hS19.size; omega) j (by omega) (by omega)) ?_
          rintro vp w199 ⟨hovp, X19_9⟩
          replace hb9 := hb9.keep X19_9 (by simp)
          have zs19_9 := X19_9.size
          obtain ⟨ap, cp, rfl, hHp, hobp⟩ := own_hs hovp (path_ok _ (Sp.leaves rs) j (Nat.le_refl _) (leavesR_ok rs)) rfl
          replace hS19 : Chg wd19 _ [] := hS19.trans X19_9
          refine s_nil ⟨.inr hS19, ?_⟩
          refine d_only 10 rfl (by kernel_rfl) ?_
          refine s_callf (xs := [.const (.pointer none), .tmp 65, .tmp 66, .tmp 68, .tmp 71]) rfl rfl Tryd.func21 rfl (by kernel_rfl) rfl (climb0 (hG.keep hS19 (by simp)) (by have := hS19.size; omega) (rleaf_ok r) hHp (by omega) (by change (Sp.path (Sp.leaves rs) j).length ≤ _; omega) (by omega)) ?_
          rintro _ w1910 ⟨rfl, X19_10⟩
          replace hb9 := hb9.keep X19_10 (by simp)
          have zs19_10 := X19_10.size
          rw [show Sp.climb (Sp.rleaf r) j n (Sp.path (rs.map Sp.rleaf) j) = (Sp.root (Sp.leaves rs), true) from hcp]
          replace hS19 : Chg wd19 _ [] := hS19.trans X19_10
          refine s_nil ⟨.inr hS19, ?_⟩
          refine d_take 11 61 rfl (by kernel_rfl) rfl hS19 (fun wS hS => runs_move rfl) ?_
          refine d_take 12 73 rfl (by kernel_rfl) rfl hS19 (fun wS hS => runs_extract rfl rfl) ?_
          refine d_take 13 74 rfl (by kernel_rfl) rfl hS19 (fun wS hS => runs_extract rfl rfl) ?_
          refine d_only 15 rfl (by kernel_rfl) ?_
          refine s_storeAll ty43 rfl rfl rfl hb9 (by rw [natsC_length, hro.1]) rfl (natsC_one _ _) ?_
          intro w1915 z19_15 h19_15 X19_15
          replace hb9 := h19_15
          replace hS19 : Chg wd19 _ [] := (hS19.trans X19_15).mono (by intro k hk hlt; simp at hk; omega)
          refine s_nil ⟨.inr hS19, ?_⟩
          refine d_take 16 10 rfl (by kernel_rfl) rfl hS19 (fun wS hS => runs_assign rfl) ?_
          refine d_done (by kernel_rfl) ?_
          replace hG := hG.keep hS19 (by simp)
          replace hX : Chg w _ [] := (hX.trans hS19).mono (by intro k hk hlt; simp at hk ⊢ <;> first | omega | grind)
          replace hL := hL.keep hS19 (by simp)
          replace hb7 := hb7.keep hS19 (by simp)
          replace hown := own_keep hown hS19 (by simp)
          refine hK40 _ _ ?_
          refine c_seqreg (fun K54 hK54 => ?_)
          refine s_val rfl rfl (runs_move rfl) ?_
          refine s_val rfl rfl (runs_not rfl) ?_
          refine s_val rfl rfl (runs_move rfl) ?_
          refine s_val rfl rfl (runs_loadAgg ty43 rfl hb9.at (by rw [natsC_length, hro.1])) ?_
          refine s_val rfl rfl (runs_loadAgg ty43 rfl hb7.at (by rw [natsC_length, hro.1])) ?_
          refine s_val rfl rfl (runs_df (runs_hv_ne rfl rfl hro hro) (fun h => h rfl)) ?_
          refine s_val rfl rfl (runs_pickf rfl rfl) ?_
          refine s_nil ?_
          refine hK54 _ _ ?_
          refine c_false rfl ?_
          refine c_skip ?_
          refine hK38 _ _ ?_
          refine c_reg ?_
          refine s_val rfl rfl (runs_add64 rfl rfl (by omega)) ?_
          refine s_val rfl rfl (runs_move rfl) ?_
          refine s_nil ?_
          dsimp only [Post.setN]
          exact ⟨j + 1, ⟨rfl, rfl, rfl, rfl, rfl, rfl, trivial⟩, ⟨by omega, hown, hG, hL, hb7, hX⟩, by omega⟩
      · refine c_exit ?_
        refine hK33 _ _ ?_
        refine c_seqreg (fun K55 hK55 => ?_)
        refine s_val rfl rfl (runs_assign rfl) ?_
        refine s_nil ?_
        refine hK55 _ _ ?_
        refine c_ret ?_
        refine hret _ _ ?_
        exact ends1 (reads_tmp rfl) ⟨rfl, hX⟩
end Go.Proofs.YtlkeofjgmegcfaaDoor
