/- Part StD of the proofs on this seat. Conditions: none beyond those in the theorems. By an AI agent. -/
import Derived.Test.YtmmijecookbajaaDoorSt15
namespace Go.Proofs.YtmmijecookbajaaDoor
open Go Go.RowKit

def Sp.few (l : List Ac) : List Ac := Sp.rising (l.map Sp.tameA)
theorem tame_num {l : List Ac} (h : ∀ a ∈ l, a.Num) : ∀ a ∈ l.map Sp.tameA, a.Num := by
  intro a ha
  obtain ⟨b, hb, rfl⟩ := List.mem_map.1 ha
  exact tameA_num (h b hb)
theorem few_wf {l : List Ac} (h : ∀ a ∈ l, a.Num) : Wf 0 (Sp.few l) := rising_wf (tame_num h)
theorem few_ok {l : List Ac} (h : ∀ a ∈ l, a.Num) : ∀ a ∈ Sp.few l, a.Ok := by
  intro a ha
  obtain ⟨b, hb, rfl⟩ := List.mem_map.1 (rising_mem ha)
  exact tameA_ok (h b hb)
theorem few_len (l : List Ac) : (Sp.few l).length ≤ l.length := by have := rising_len (l.map Sp.tameA); rwa [List.length_map] at this
theorem acs_lit {w : World} {b m : Nat} (l : List Ac) {t : TypeId} (h : Blk w b (flatC (l.map av)) t) (ok : ∀ x ∈ l, x.Num) (hl : l.length = m) (hm : m ≤ maxLen := by simp [maxLen]) : AcR w (some ⟨b, 0, none⟩) m m l := by
  have e : flatC (l.map av) = l.flatMap Ac.C := by
    unfold flatC
    rw [List.flatMap_map]
    rfl
  rw [e] at h
  exact ⟨lit_reads h (by rw [acs_len ok, hl]) hm, hl, ok⟩
theorem av_sz {l : List Ac} (h : ∀ x ∈ l, x.Num) : ∀ v ∈ l.map av, v.cells.size = 46 := by
  intro v hv
  obtain ⟨x, hx, rfl⟩ := List.mem_map.1 hv
  simpa [av, Value.cells] using Ac.len (h x hx)
set_option maxHeartbeats 1000000 in
theorem few_calls (B : Nat) (l : List Ac) (a : Option Addr) (n c : Nat) (w : World) (hG : GH B w) (hBw : B ≤ w.heap.size) (hR : AcR w a n c l) (hn : n * 144 ≤ 140737488355328) :
    CallsR Tryd.prog 14 #[.slice a n c] w fun v w' => ∃ v1, v = .tuple #[v1, .bool (decide ((n : Int) ≤ 20))] ∧ w'.ownsRow w.heap.size 28 46 v1 (Sp.few l).length ((Sp.few l).flatMap Ac.C) ∧ Chg w w' [] := by
  have hX : Chg w w [] := Chg.refl _ _
  have hlen := hR.len
  refine f_enter (l := [.slice a n c]) Tryd.func14 rfl rfl rfl rfl ?_
  intro Qf hnrm hret
  refine c_seqreg (fun K1 hK1 => ?_)
  refine s_val rfl rfl (runs_assign rfl) ?_
  refine s_val rfl rfl (runs_assign rfl) ?_
  refine s_nil ?_
  refine hK1 _ _ ?_
  refine c_seqreg (fun K2 hK2 => ?_)
  refine s_val rfl rfl (runs_assign rfl) ?_
  refine s_nil ?_
  refine hK2 _ _ ?_
  refine c_seq (fun K3 hK3 => ?_)
  refine c_seqreg (fun K4 hK4 => ?_)
  refine s_val rfl rfl (runs_move rfl) ?_
  refine s_val rfl rfl (runs_len_slice Tryd.underlying38 rfl) ?_
  refine s_val rfl rfl (runs_move rfl) ?_
  refine s_nil ?_
  refine hK4 _ _ ?_
  refine c_block ?_
  refine c_loop (σ := Nat × Value) (fun s => [(9, .int .i64 (s.1 : Int)), (4, s.2), (8, .int .i64 (n : Int)), (7, .slice a n c), (0, .slice a n c)]) (fun s W => s.1 ≤ n ∧ W.ownsRow w.heap.size 28 46 s.2 s.1 (((l.take s.1).map Sp.tameA).flatMap Ac.C) ∧ Chg w W []) (fun s => n - s.1) (0, .slice none 0 0) ⟨rfl, rfl, rfl, rfl, rfl, trivial⟩ ⟨Nat.zero_le _, World.ownsRow_nil _ _ _ _, hX⟩ ?_
  rintro ⟨i, vo⟩ wi ⟨hi, hown, hX⟩
  dsimp only at hi hown ⊢
  have hzX := hX.size
  have hown0 := hown
  refine c_seqreg (fun K5 hK5 => ?_)
  refine s_val rfl rfl (runs_lt rfl rfl) ?_
  refine s_nil ?_
  refine hK5 _ _ ?_
  refine c_seq (fun K6 hK6 => ?_)
  refine c_dec rfl (fun hin => ?_) (fun hin => ?_)
  · obtain ⟨x, hx⟩ : ∃ x, l[i]? = some x := ⟨_, List.getElem?_eq_getElem (by omega)⟩
    have hR' := hR.keep0 hX
    have hxn := hR.ok x (List.mem_of_getElem? hx)
    obtain ⟨ba, oa, rfl⟩ := hR'.rd.some_ (by omega)
    have hxat := hR'.elem hx
    refine c_skip ?_
    refine hK6 _ _ ?_
    refine c_seq (fun K7 hK7 => ?_)
    refine c_block ?_
    refine c_seqreg (fun K8 hK8 => ?_)
    refine s_val rfl rfl (runs_index_slice (i) Tryd.underlying38 ty28 rfl rfl (by omega) (by omega)) ?_
    refine s_val rfl rfl (runs_loadAgg ty28 rfl hxat (Ac.len hxn)) ?_
    refine s_alloc ty28 rfl rfl ?_
    intro b6 w42 e4_2 z4_2 hb6 X4_2
    have s4_2_hX := hX.size
    replace hX : Chg w _ [] := (hX.trans X4_2).mono (by intro k hk hlt; simp at hk ⊢ <;> first | omega | grind)
    replace hown := own_keep hown X4_2 (by simp)
    refine s_storeAll ty28 rfl rfl rfl hb6 (Ac.len hxn) rfl (Ac.one x) ?_
    intro w43 z4_3 h4_3 X4_3
    replace hX : Chg w _ [] := (hX.trans X4_3).mono (by intro k hk hlt; simp at hk ⊢ <;> first | omega | grind)
    replace hown := own_keep hown X4_3 (fun k hk hm => by have := hown0.lt k hk; simp at hm; omega)
    replace hb6 := h4_3
    refine s_nil ?_
    have hzX4 := hX.size
    have hl6 := hb6.lt
    refine hK8 _ _ ?_
    refine c_reg ?_
    refine s_val rfl rfl (runs_move rfl) ?_
    refine s_val rfl rfl (runs_loadAgg ty28 rfl hb6.at (Ac.len hxn)) ?_
    refine s_callf (xs := [.tmp 14]) rfl rfl Tryd.func11 rfl (by kernel_rfl) rfl (tame_calls x _ hxn) ?_
    rintro _ w52 ⟨rfl, X5_2⟩
    replace hX : Chg w _ [] := (hX.trans X5_2).mono (by intro k hk hlt; simp at hk ⊢ <;> first | omega | grind)
    replace hown := own_keep hown X5_2 (by simp)
    have zs5_2 := X5_2.size
    refine s_lit (xs := [.tmp 15]) Tryd.underlying38 ty28 rfl rfl rfl rfl rfl (av_sz (l := [Sp.tameA x]) (by simpa using tameA_num hxn)) (by decide) (by decide) ?_
    intro b16 w53 e5_3 z5_3 hb16 X5_3
    have s5_3_hX := hX.size
    replace hX : Chg w _ [] := (hX.trans X5_3).mono (by intro k hk hlt; simp at hk ⊢ <;> first | omega | grind)
    replace hown := own_keep hown X5_3 (by simp)
    refine s_append Tryd.underlying38 ty28 rfl (by decide) rfl rfl rfl hown rfl (acs_lit [Sp.tameA x] hb16 (by simpa using tameA_num hxn) rfl).rd (acs_one _) (by simp only [maxLen]; omega) (by omega) (by omega) ?_
    intro v5 w54 H5_4 X5_4 F5_4
    replace hX : Chg w _ [] := (hX.trans X5_4).mono (by intro k hk hlt; have := (hown0.lt k (by simpa using hk)).1; omega)
    have hown := H5_4
    refine s_val rfl rfl (runs_assign rfl) ?_
    refine s_nil ?_
    replace hown : w54.ownsRow w.heap.size 28 46 v5 (i + 1) (((l.take (i + 1)).map Sp.tameA).flatMap Ac.C) := by rw [List.take_add_one, hx]; simpa using hown
    refine hK7 _ _ ?_
    refine c_reg ?_
    refine s_val rfl rfl (runs_add64 rfl rfl (by omega)) ?_
    refine s_val rfl rfl (runs_move rfl) ?_
    refine s_nil ?_
    dsimp only [Post.setN]
    exact ⟨(i + 1, v5), ⟨rfl, rfl, rfl, rfl, rfl, trivial⟩, ⟨by dsimp only; omega, hown, hX⟩, by dsimp only; omega⟩
  · obtain rfl : i = n := by omega
    rw [List.take_of_length_le (by omega)] at hown
    obtain ⟨a4, c4, rfl, hR4, hb4⟩ := own_acs hown (tame_num hR.ok) (by rw [List.length_map, hlen])
    refine c_exit ?_
    refine hK3 _ _ ?_
    refine c_seqreg (fun K14 hK14 => ?_)
    refine s_val rfl rfl (runs_move rfl) ?_
    refine s_callf (xs := [.tmp 19]) rfl rfl Tryd.func21 rfl (by kernel_rfl) rfl (rising_calls B (l.map Sp.tameA) _ _ _ _ (hG.keep hX (by simp)) (by omega) hR4 hn) ?_
    rintro v7 w71 ⟨hownr, X7_1⟩
    replace hX : Chg w _ [] := (hX.trans X7_1).mono (by intro k hk hlt; simp at hk ⊢ <;> first | omega | grind)
    have zs7_1 := X7_1.size
    have hz71 := X7_1.size
    replace hownr : w71.ownsRow w.heap.size 28 46 v7 (Sp.few l).length ((Sp.few l).flatMap Ac.C) := own_base hownr (by omega)
    refine s_val rfl rfl (runs_move rfl) ?_
    refine s_val rfl rfl (runs_len_slice Tryd.underlying38 rfl) ?_
    refine s_val rfl rfl (runs_le rfl rfl) ?_
    refine s_val rfl rfl (runs_assign rfl) ?_
    refine s_val rfl rfl (runs_assign rfl) ?_
    refine s_nil ?_
    refine hK14 _ _ ?_
    refine c_ret ?_
    refine hret _ _ ?_
    exact ends2 (reads_tmp rfl) (reads_tmp rfl) ⟨_, rfl, hownr, hX⟩
theorem same_next {l m : List Ac} {i : Nat} (hi : i < l.length) (h : ∀ j, j < i → l[j]? = m[j]?) (he : l[i]? = m[i]?) : ∀ j, j < i + 1 → l[j]? = m[j]? := by
  intro j hj
  by_cases e : j = i
  · subst e; exact he
  · exact h j (by omega)
theorem same_is {l m : List Ac} (h : ∀ j, j < l.length → l[j]? = m[j]?) (hl : l.length = m.length) : l = m := by
  refine List.ext_getElem? fun j => ?_
  by_cases hj : j < l.length
  · exact h j hj
  · rw [List.getElem?_eq_none (by omega), List.getElem?_eq_none (by omega)]
set_option maxHeartbeats 1000000 in
theorem same_calls (l m : List Ac) (a a' : Option Addr) (n c n' c' : Nat) (w : World) (hR : AcR w a n c l) (hR' : AcR w a' n' c' m) (hn : n ≤ 1000) (hn' : n' ≤ 1000) :
    CallsR Tryd.prog 22 #[.slice a n c, .slice a' n' c'] w fun v w' => v = .bool (decide (l = m)) ∧ Chg w w' [] := by
  have hX : Chg w w [] := Chg.refl _ _
  have hlen := hR.len
  have hlen' := hR'.len
  refine f_enter (l := [.slice a n c, .slice a' n' c']) Tryd.func22 rfl rfl rfl rfl ?_
  intro Qf hnrm hret
  refine c_seqreg (fun K1 hK1 => ?_)
  refine s_val rfl rfl (runs_assign rfl) ?_
  refine s_nil ?_
  refine hK1 _ _ ?_
  refine c_seq (fun K2 hK2 => ?_)
  refine c_seqreg (fun K3 hK3 => ?_)
  refine s_val rfl rfl (runs_move rfl) ?_
  refine s_val rfl rfl (runs_len_slice Tryd.underlying38 rfl) ?_
  refine s_val rfl rfl (runs_move rfl) ?_
  refine s_nil ?_
  refine hK3 _ _ ?_
  refine c_block ?_
  refine c_loop (σ := Nat) (fun i => [(8, .int .i64 (i : Int)), (7, .int .i64 (n : Int)), (6, .slice a n c), (0, .slice a n c), (1, .slice a' n' c')]) (fun i W => i ≤ n ∧ (∀ j, j < i → l[j]? = m[j]?) ∧ Chg w W []) (fun i => n - i) 0 ⟨rfl, rfl, rfl, rfl, rfl, trivial⟩ ⟨Nat.zero_le _, fun j hj => by omega, hX⟩ ?_
  rintro i wi ⟨hi, hall, hX⟩
  refine c_seqreg (fun K4 hK4 => ?_)
  refine s_val rfl rfl (runs_lt rfl rfl) ?_
  refine s_nil ?_
  refine hK4 _ _ ?_
  refine c_seq (fun K5 hK5 => ?_)
  refine c_dec rfl (fun hin => ?_) (fun hin => ?_)
  · obtain ⟨x, hx⟩ : ∃ x, l[i]? = some x := ⟨_, List.getElem?_eq_getElem (by omega)⟩
    have hxn := hR.ok x (List.mem_of_getElem? hx)
    obtain ⟨ba, oa, rfl⟩ := hR.rd.some_ (by omega)
    refine c_skip ?_
    refine hK5 _ _ ?_
    refine c_seq (fun K6 hK6 => ?_)
    refine c_block ?_
    refine c_seqreg (fun K7 hK7 => ?_)
    refine s_val rfl rfl (runs_move rfl) ?_
    refine s_val rfl rfl (runs_assign rfl) ?_
    refine s_nil ?_
    refine hK7 _ _ ?_
    rcases Decidable.em (i < n') with hin' | hin'
    rotate_left
    have htags : True := trivial
    rotate_left
    obtain ⟨y, hy⟩ : ∃ y, m[i]? = some y := ⟨_, List.getElem?_eq_getElem (by omega)⟩
    have hyn := hR'.ok y (List.mem_of_getElem? hy)
    obtain ⟨b1, o1, rfl⟩ := hR'.rd.some_ (by omega)
    rcases Decidable.em (x = y) with hxy | hxy
    rotate_left
    rotate_left
    · refine c_seqdraw [] ([]) (by kernel_rfl) ?_
      intro K8 hK8 wd4 Xd4 hS4
      replace hX : Chg w _ [] := (hX.trans Xd4).mono (by intro k hk hlt; simp at hk ⊢ <;> first | omega | grind)
      have zd4 := Xd4.size
      refine d_take 0 11 rfl (by kernel_rfl) rfl hS4 (fun wS hS => runs_move rfl) ?_
      refine d_take 1 12 rfl (by kernel_rfl) rfl hS4 (fun wS hS => runs_move rfl) ?_
      refine d_take 2 13 rfl (by kernel_rfl) rfl hS4 (fun wS hS => runs_len_slice Tryd.underlying38 rfl) ?_
      refine d_take 3 14 rfl (by kernel_rfl) rfl hS4 (fun wS hS => runs_dt (runs_ge rfl rfl) (by omega)) ?_
      refine d_take 4 15 rfl (by kernel_rfl) rfl hS4 (fun wS hS => runs_move rfl) ?_
      refine d_takeskip 5 16 rfl (by kernel_rfl) rfl hS4 ?_
      refine d_takeskip 6 17 rfl (by kernel_rfl) rfl hS4 ?_
      refine d_takeskip 7 18 rfl (by kernel_rfl) rfl hS4 ?_
      refine d_takeskip 8 19 rfl (by kernel_rfl) rfl hS4 ?_
      refine d_takeskip 9 20 rfl (by kernel_rfl) rfl hS4 ?_
      refine d_takeskip 10 21 rfl (by kernel_rfl) rfl hS4 ?_
      refine d_takeskip 11 22 rfl (by kernel_rfl) rfl hS4 ?_
      refine d_takeskip 12 23 rfl (by kernel_rfl) rfl hS4 ?_
      refine d_takeskip 13 24 rfl (by kernel_rfl) rfl hS4 ?_
      refine d_take 14 25 rfl (by kernel_rfl) rfl hS4 (fun wS hS => runs_pickt rfl rfl) ?_
      refine d_done (by kernel_rfl) ?_
      replace hX : Chg w _ [] := (hX.trans hS4).mono (by intro k hk hlt; simp at hk ⊢ <;> first | omega | grind)
      refine hK8 _ _ ?_
      refine c_true rfl ?_
      refine c_seqreg (fun K9 hK9 => ?_)
      refine s_val rfl rfl (runs_assign rfl) ?_
      refine s_nil ?_
      refine hK9 _ _ ?_
      refine c_ret ?_
      refine hret _ _ ?_
      exact ends1 (reads_tmp rfl) ⟨by rw [decide_eq_false (fun h => by rw [h] at hlen; omega)], hX⟩
    · refine c_seqdraw [] ([]) (by kernel_rfl) ?_
      intro K8 hK8 wd4 Xd4 hS4
      replace hX : Chg w _ [] := (hX.trans Xd4).mono (by intro k hk hlt; simp at hk ⊢ <;> first | omega | grind)
      have zd4 := Xd4.size
      refine d_take 0 11 rfl (by kernel_rfl) rfl hS4 (fun wS hS => runs_move rfl) ?_
      refine d_take 1 12 rfl (by kernel_rfl) rfl hS4 (fun wS hS => runs_move rfl) ?_
      refine d_take 2 13 rfl (by kernel_rfl) rfl hS4 (fun wS hS => runs_len_slice Tryd.underlying38 rfl) ?_
      refine d_take 3 14 rfl (by kernel_rfl) rfl hS4 (fun wS hS => runs_df (runs_ge rfl rfl) (by omega)) ?_
      refine d_take 4 15 rfl (by kernel_rfl) rfl hS4 (fun wS hS => runs_move rfl) ?_
      refine d_take 5 16 rfl (by kernel_rfl) rfl hS4 (fun wS hS => runs_move rfl) ?_
      refine d_take 6 17 rfl (by kernel_rfl) rfl hS4 (fun wS hS => runs_move rfl) ?_
      refine d_take 7 18 rfl (by kernel_rfl) rfl hS4 (fun wS hS => runs_index_slice (i) Tryd.underlying38 ty28 rfl rfl (by omega) (by omega)) ?_
      refine d_take 8 19 rfl (by kernel_rfl) rfl hS4 (fun wS hS => runs_loadAgg ty28 rfl (((hR.keep0 hX).keep0 hS).elem hx) (Ac.len hxn)) ?_
      refine d_take 9 20 rfl (by kernel_rfl) rfl hS4 (fun wS hS => runs_move rfl) ?_
      refine d_take 10 21 rfl (by kernel_rfl) rfl hS4 (fun wS hS => runs_move rfl) ?_
      refine d_take 11 22 rfl (by kernel_rfl) rfl hS4 (fun wS hS => runs_index_slice (i) Tryd.underlying38 ty28 rfl rfl (by omega) (by omega)) ?_
      refine d_take 12 23 rfl (by kernel_rfl) rfl hS4 (fun wS hS => runs_loadAgg ty28 rfl (((hR'.keep0 hX).keep0 hS).elem hy) (Ac.len hyn)) ?_
      refine d_take 13 24 rfl (by kernel_rfl) rfl hS4 (fun wS hS => runs_df (runs_acc_ne rfl rfl hxn hyn) (fun h => h hxy)) ?_
      refine d_take 14 25 rfl (by kernel_rfl) rfl hS4 (fun wS hS => runs_pickf rfl rfl) ?_
      refine d_done (by kernel_rfl) ?_
      replace hX : Chg w _ [] := (hX.trans hS4).mono (by intro k hk hlt; simp at hk ⊢ <;> first | omega | grind)
      refine hK8 _ _ ?_
      refine c_false rfl ?_
      refine c_skip ?_
      refine hK6 _ _ ?_
      refine c_reg ?_
      refine s_val rfl rfl (runs_add64 rfl rfl (by omega)) ?_
      refine s_val rfl rfl (runs_move rfl) ?_
      refine s_nil ?_
      dsimp only [Post.setN]
      exact ⟨i + 1, ⟨rfl, rfl, rfl, rfl, rfl, trivial⟩, ⟨by omega, same_next (by omega) hall (by rw [hx, hy, hxy]), hX⟩, by omega⟩
    · refine c_seqdraw [] ([]) (by kernel_rfl) ?_
      intro K8 hK8 wd4 Xd4 hS4
      replace hX : Chg w _ [] := (hX.trans Xd4).mono (by intro k hk hlt; simp at hk ⊢ <;> first | omega | grind)
      have zd4 := Xd4.size
      refine d_take 0 11 rfl (by kernel_rfl) rfl hS4 (fun wS hS => runs_move rfl) ?_
      refine d_take 1 12 rfl (by kernel_rfl) rfl hS4 (fun wS hS => runs_move rfl) ?_
      refine d_take 2 13 rfl (by kernel_rfl) rfl hS4 (fun wS hS => runs_len_slice Tryd.underlying38 rfl) ?_
      refine d_take 3 14 rfl (by kernel_rfl) rfl hS4 (fun wS hS => runs_df (runs_ge rfl rfl) (by omega)) ?_
      refine d_take 4 15 rfl (by kernel_rfl) rfl hS4 (fun wS hS => runs_move rfl) ?_
      refine d_take 5 16 rfl (by kernel_rfl) rfl hS4 (fun wS hS => runs_move rfl) ?_
      refine d_take 6 17 rfl (by kernel_rfl) rfl hS4 (fun wS hS => runs_move rfl) ?_
      refine d_take 7 18 rfl (by kernel_rfl) rfl hS4 (fun wS hS => runs_index_slice (i) Tryd.underlying38 ty28 rfl rfl (by omega) (by omega)) ?_
      refine d_take 8 19 rfl (by kernel_rfl) rfl hS4 (fun wS hS => runs_loadAgg ty28 rfl (((hR.keep0 hX).keep0 hS).elem hx) (Ac.len hxn)) ?_
      refine d_take 9 20 rfl (by kernel_rfl) rfl hS4 (fun wS hS => runs_move rfl) ?_
      refine d_take 10 21 rfl (by kernel_rfl) rfl hS4 (fun wS hS => runs_move rfl) ?_
      refine d_take 11 22 rfl (by kernel_rfl) rfl hS4 (fun wS hS => runs_index_slice (i) Tryd.underlying38 ty28 rfl rfl (by omega) (by omega)) ?_
      refine d_take 12 23 rfl (by kernel_rfl) rfl hS4 (fun wS hS => runs_loadAgg ty28 rfl (((hR'.keep0 hX).keep0 hS).elem hy) (Ac.len hyn)) ?_
      refine d_take 13 24 rfl (by kernel_rfl) rfl hS4 (fun wS hS => runs_dt (runs_acc_ne rfl rfl hxn hyn) hxy) ?_
      refine d_take 14 25 rfl (by kernel_rfl) rfl hS4 (fun wS hS => runs_pickf rfl rfl) ?_
      refine d_done (by kernel_rfl) ?_
      replace hX : Chg w _ [] := (hX.trans hS4).mono (by intro k hk hlt; simp at hk ⊢ <;> first | omega | grind)
      refine hK8 _ _ ?_
      refine c_true rfl ?_
      refine c_seqreg (fun K10 hK10 => ?_)
      refine s_val rfl rfl (runs_assign rfl) ?_
      refine s_nil ?_
      refine hK10 _ _ ?_
      refine c_ret ?_
      refine hret _ _ ?_
      exact ends1 (reads_tmp rfl) ⟨by rw [decide_eq_false (fun h => by rw [h, hy] at hx; cases hx; exact hxy rfl)], hX⟩
  · refine c_exit ?_
    refine hK2 _ _ ?_
    refine c_seqreg (fun K11 hK11 => ?_)
    refine s_val rfl rfl (runs_move rfl) ?_
    refine s_val rfl rfl (runs_len_slice Tryd.underlying38 rfl) ?_
    refine s_val rfl rfl (runs_move rfl) ?_
    refine s_val rfl rfl (runs_len_slice Tryd.underlying38 rfl) ?_
    refine s_val rfl rfl (runs_eqd rfl rfl) ?_
    refine s_val rfl rfl (runs_assign rfl) ?_
    refine s_nil ?_
    refine hK11 _ _ ?_
    refine c_ret ?_
    refine hret _ _ ?_
    refine ends1 (reads_tmp rfl) ⟨?_, hX⟩
    congr 1
    rw [decide_eq_decide]
    exact ⟨fun h => same_is (fun j hj => hall j (by omega)) (by omega), fun h => by rw [h] at hlen; omega⟩
set_option maxHeartbeats 1000000 in
theorem side0_calls (B : Nat) (l : List Ac) (a : Option Addr) (n c k : Nat) (w : World) (hG : GH B w) (hBw : B ≤ w.heap.size) (hw : Wf (k + 1) l) (hR : AcR w a n c l) (hn : n ≤ 1000) :
    CallsR Tryd.prog 17 #[.slice a n c, .int .i64 (k : Int)] w fun v w' => v = hv (Sp.aroot (k + 1) l) ∧ Chg w w' [] := by
  have hX : Chg w w [] := Chg.refl _ _
  have hlen := hR.len
  have hk := hw.k_le
  refine f_enter (l := [.slice a n c, .int .i64 (k : Int)]) Tryd.func17 rfl rfl rfl rfl ?_
  intro Qf hnrm hret
  refine c_seqreg (fun K1 hK1 => ?_)
  refine s_alloc ty26 rfl rfl ?_
  intro b4 w0 e0_0 z0_0 hb4 X0_0
  have s0_0_hX := hX.size
  replace hG := hG.keep X0_0 (by simp)
  replace hX : Chg w _ [] := (hX.trans X0_0).mono (by intro k hk hlt; simp at hk ⊢ <;> first | omega | grind)
  refine s_nil ?_
  have hzX := hX.size
  have hl4 := hb4.lt
  refine hK1 _ _ ?_
  refine c_seq (fun K3 hK3 => ?_)
  refine c_seqreg (fun K4 hK4 => ?_)
  refine s_val rfl rfl (runs_move rfl) ?_
  refine s_val rfl rfl (runs_len_slice Tryd.underlying38 rfl) ?_
  refine s_val rfl rfl (runs_eqd rfl rfl) ?_
  refine s_nil ?_
  refine hK4 _ _ ?_
  refine c_dec rfl (fun h0 => ?_) (fun h0 => ?_)
  · obtain rfl : l = [] := List.eq_nil_of_length_eq_zero (by omega)
    refine c_seqreg (fun K5 hK5 => ?_)
    refine s_lit (xs := [.const (.int .u8 4)]) Tryd.underlying47 ty5 rfl rfl rfl rfl rfl (by simp [Value.cells]) (by decide) (by decide) ?_
    intro b8 w20 e2_0 z2_0 hb8 X2_0
    have s2_0_hX := hX.size
    have s2_0_hb4 := hb4.lt
    replace hG := hG.keep X2_0 (by simp)
    replace hX : Chg w _ [] := (hX.trans X2_0).mono (by intro k hk hlt; simp at hk ⊢ <;> first | omega | grind)
    replace hb4 := hb4.keep X2_0 (by simp)
    refine s_lit (xs := [.tmp 8]) Tryd.underlying51 ty47 rfl rfl rfl rfl rfl (by simp [Value.cells]) (by decide) (by decide) ?_
    intro b9 w21 e2_1 z2_1 hb9 X2_1
    have s2_1_hX := hX.size
    have s2_1_hb4 := hb4.lt
    have s2_1_hb8 := hb8.lt
    replace hG := hG.keep X2_1 (by simp)
    replace hX : Chg w _ [] := (hX.trans X2_1).mono (by intro k hk hlt; simp at hk ⊢ <;> first | omega | grind)
    replace hb4 := hb4.keep X2_1 (by simp)
    replace hb8 := hb8.keep X2_1 (by simp)
    refine s_callf (xs := [.const (.pointer none), .tmp 9]) rfl rfl Tryd.func18 rfl (by kernel_rfl) rfl (of0 (bss := [[4]]) hG (by omega) (parts_one hb9 (lit1 hb8) (by simp)) (by simp)) ?_
    rintro _ w22 ⟨rfl, X2_2⟩
    replace hG := hG.keep X2_2 (by simp)
    replace hX : Chg w _ [] := (hX.trans X2_2).mono (by intro k hk hlt; simp at hk ⊢ <;> first | omega | grind)
    replace hb4 := hb4.keep X2_2 (by simp)
    replace hb8 := hb8.keep X2_2 (by simp)
    replace hb9 := hb9.keep X2_2 (by simp)
    have zs2_2 := X2_2.size
    refine s_storeAll ty26 rfl rfl rfl hb4 (by rw [natsC_length, sha_length]) rfl (natsC_one _ _) ?_
    intro w23 z2_3 h2_3 X2_3
    replace hX : Chg w _ [] := (hX.trans X2_3).mono (by intro k hk hlt; simp at hk ⊢ <;> first | omega | grind)
    replace hb4 := h2_3
    refine s_nil ?_
    refine hK5 _ _ ?_
    refine c_ret ?_
    refine hret _ _ ?_
    exact ends1 (reads_cell ty26 rfl hb4.at (by rw [natsC_length, sha_length])) ⟨by rw [aroot_nil hk]; simp [hv, Sp.anone], hX⟩
  · refine c_skip ?_
    refine hK3 _ _ ?_
    refine c_seqreg (fun K10 hK10 => ?_)
    refine s_val rfl rfl (runs_move rfl) ?_
    refine s_val rfl rfl (runs_as (v' := .int .i64 ((k + 1 : Nat) : Int)) (runs_add64 rfl rfl (by omega)) (congrArg (Value.int .i64) (by omega))) ?_
    refine s_val rfl rfl (runs_move rfl) ?_
    refine s_callf (xs := [.const (.pointer none), .tmp 12, .tmp 13]) rfl rfl Tryd.func15 rfl (by kernel_rfl) rfl (aroot0 hG (by omega) hw (hR.keep0 hX) hn) ?_
    rintro _ w33 ⟨rfl, X3_3⟩
    replace hG := hG.keep X3_3 (by simp)
    replace hX : Chg w _ [] := (hX.trans X3_3).mono (by intro k hk hlt; simp at hk ⊢ <;> first | omega | grind)
    replace hb4 := hb4.keep X3_3 (by simp)
    have zs3_3 := X3_3.size
    refine s_storeAll ty26 rfl rfl rfl hb4 (by rw [natsC_length, (aroot_ok _ _).1]) rfl (natsC_one _ _) ?_
    intro w34 z3_4 h3_4 X3_4
    replace hX : Chg w _ [] := (hX.trans X3_4).mono (by intro k hk hlt; simp at hk ⊢ <;> first | omega | grind)
    replace hb4 := h3_4
    refine s_nil ?_
    refine hK10 _ _ ?_
    refine c_ret ?_
    refine hret _ _ ?_
    exact ends1 (reads_cell ty26 rfl hb4.at (by rw [natsC_length, (aroot_ok _ _).1])) ⟨rfl, hX⟩
/-! Prove and Climb -/
theorem prove_climb {l : List Ac} (id : Nm) (h : Wf 0 l) : Sp.aclimbR id (decide (Sp.aend id 0 l ≠ [])) (Sp.topA (Sp.aend id 0 l)) (Sp.apath id 0 l) = (Sp.aroot 0 l, true) ∧
    Sp.aclimbRN id (decide (Sp.aend id 0 l ≠ [])) (Sp.topA (Sp.aend id 0 l)) (Sp.apath id 0 l) = (if Sp.aend id 0 l = [] then [[4]] else [[4], 2 :: Sp.acB (Sp.topA (Sp.aend id 0 l))]) ++ Sp.aclimbN id 0 (Sp.apath id 0 l) (Sp.atop (Sp.aend id 0 l)) := by
  obtain ⟨e1, e2⟩ := climb_prove id 129 0 l (by omega) h
  have hl := apath_len id 129 0 l (by omega) h
  have hm := aend_mem id 129 0 l (by omega) h
  have hl' : ¬ 128 < (Sp.apath id 0 l).length := by omega
  unfold Sp.aclimbR Sp.aclimbRN
  rw [if_neg hl', if_neg hl']
  clear hl hl'
  generalize Sp.aend id 0 l = A at *
  match A, e1, e2, hm with
  | [], e1, _, _ =>
    have e1' : Sp.aclimb id 0 (Sp.apath id 0 l) Sp.anone = Sp.aroot 0 l := e1
    simp [Sp.topA, Sp.atop, e1']
  | [x], e1, _, hm =>
    have e1' : Sp.aclimb id 0 (Sp.apath id 0 l) (Sp.aleaf x) = Sp.aroot 0 l := e1
    have hs : Sp.stray x.id id (Sp.apath id 0 l).length = false := stray_false fun i hi => (hm x (by simp)).2 i (by omega) (by omega)
    simp [Sp.topA, Sp.atop, e1', hs]
  | _ :: _ :: _, _, e2, _ => simp at e2
theorem climbS0 {B : Nat} {w : World} {id : Nm} {th : Bool} {r : Ac} {a : Option Addr} {n c : Nat} {path : List (List Nat)} (g : GH B w) (b : B ≤ w.heap.size) (hid : NOk id) (hr : r.Num) (hH : HsR w a n c path) (hob : ∀ p, a = some p → p.block < w.heap.size) (hn : n ≤ 1000) :
    CallsR Tryd.prog 12 #[.pointer none, nv id, pfv th r (.slice a n c)] w fun v w' => v = .tuple #[hv (Sp.aclimbR id th r path).1, .bool (Sp.aclimbR id th r path).2] ∧ Chg w w' [] :=
  (climbS_calls (lo := w.heap.size) (TG.none_ w B w.heap.size []) g b (Nat.le_refl _) (by simp) hid hr hH (fun p hp => .inl (hob p hp)) hob hn (by simp [TS.len]; omega)).mono fun _ _ ⟨e, _, p⟩ => ⟨e, p.chg⟩
theorem TL.climbS {w : World} {B lo hi : Nat} {l : List Nat} {bt : Nat} {vt : Value} {L : List (List Nat)} (h : TL w B lo hi l bt vt L) (ns : List Nat) (hns : ∀ x ∈ ns, hi ≤ x ∧ x < w.heap.size) (hG : GH B w) (hB : B ≤ w.heap.size)
    {id : Nm} {th : Bool} {r : Ac} {a : Option Addr} {n c : Nat} {path : List (List Nat)} (hid : NOk id) (hr : r.Num) (hH : HsR w a n c path) (ho : ∀ p, a = some p → p.block < lo ∨ p.block ∈ ns ++ l) (hob : ∀ p, a = some p → p.block < w.heap.size) (hn : n ≤ 1000) (htl : L.length ≤ 1000000000) :
    CallsR Tryd.prog 12 #[.pointer (some ⟨bt, 0, none⟩), nv id, pfv th r (.slice a n c)] w fun v w' => v = .tuple #[hv (Sp.aclimbR id th r path).1, .bool (Sp.aclimbR id th r path).2] ∧ ∃ vt', TC w w' B lo (ns ++ l) bt vt vt' L (Sp.aclimbRN id th r path) := by
  have h1 := h.add ns hns
  exact (climbS_calls h1.tg hG hB h1.base h1.lt hid hr hH ho hob hn (by simp [TS.len]; omega)).mono fun _ _ ⟨e, _, p⟩ => ⟨e, h1.after p⟩
end Go.Proofs.YtmmijecookbajaaDoor
namespace Go.Proofs.YtmmijecookbajaaDoor
open Go Go.RowKit

def Sp.accId (k : Nat) : Ac := { Sp.zeroA with id := (0, k) }
theorem accId_num {k : Nat} (h : k < 18446744073709551616) : (Sp.accId k).Num := ⟨⟨by simp [Sp.accId], h⟩, zeroA_num.dp, zeroA_num.dq, zeroA_num.cp, zeroA_num.cq, zeroA_num.root⟩
theorem fit_wf : Wf 0 [Sp.accId 1, Sp.accId 2] := by
  have n1 : Sp.nat (Sp.accId 1).id = 1 := by simp [Sp.nat, Sp.accId]
  have n2 : Sp.nat (Sp.accId 2).id = 2 := by simp [Sp.nat, Sp.accId]
  refine ⟨by omega, by simp [n1, n2], fun a ha b hb => ?_, by simpa using ⟨accId_num (by decide), accId_num (by decide)⟩⟩
  simp only [List.mem_cons, List.not_mem_nil, or_false] at ha hb
  rcases ha with rfl | rfl <;> rcases hb with rfl | rfl <;> simp [n1, n2]
theorem fit_end : Sp.aend (0, 2) 0 [Sp.accId 1, Sp.accId 2] = [Sp.accId 2] := by
  have h1 := (climb_prove (0, 2) 129 0 _ (by omega) fit_wf).2
  have h2 := aend_has (0, 2) 129 0 _ (by omega) fit_wf (Sp.accId 2) (by simp) rfl
  match Sp.aend (0, 2) 0 [Sp.accId 1, Sp.accId 2], h1, h2 with
  | [x], _, h2 => simp at h2; rw [h2]
  | [], _, h2 => simp at h2
  | _ :: _ :: _, h1, _ => simp at h1
set_option maxHeartbeats 2000000 in
theorem fit_calls (B : Nat) (w : World) (hG : GH B w) (hBw : B ≤ w.heap.size) : CallsR Tryd.prog 10 #[] w fun v w' => v = .bool true ∧ Chg w w' [] := by
  have hX : Chg w w [] := Chg.refl _ _
  obtain ⟨fa, hfa⟩ : ∃ a, a = Sp.accId 1 := ⟨_, rfl⟩
  obtain ⟨fb, hfb⟩ : ∃ a, a = Sp.accId 2 := ⟨_, rfl⟩
  have hna : fa.Num := by rw [hfa]; exact accId_num (by decide)
  have hnb : fb.Num := by rw [hfb]; exact accId_num (by decide)
  have hwf : Wf 0 [fa, fb] := by rw [hfa, hfb]; exact fit_wf
  have hnum : ∀ x ∈ [fa, fb], x.Num := hwf.num
  have hen : Sp.aend (0, 2) 0 [fa, fb] = [fb] := by rw [hfa, hfb]; exact fit_end
  have hn2 : NOk (0, 2) := ⟨by decide, by decide⟩
  obtain ⟨fp, hfp⟩ : ∃ p, p = Sp.apath (0, 2) 0 [fa, fb] := ⟨_, rfl⟩
  have hpl := apath_len (0, 2) 129 0 _ (by omega) hwf
  have hpo := apath_ok (0, 2) 129 0 _ (by omega) hwf
  have hpc := (prove_climb (0, 2) hwf).1
  rw [hen] at hpc
  rw [← hfp] at hpl hpo hpc
  refine f_enter (l := []) Tryd.func10 rfl rfl rfl rfl ?_
  intro Qf hnrm hret
  refine c_seqreg (fun K1 hK1 => ?_)
  refine s_val rfl rfl (runs_assign rfl) ?_
  refine s_nil ?_
  refine hK1 _ _ ?_
  refine c_seqreg (fun K2 hK2 => ?_)
  refine s_callf (xs := [.const (.int .u64 1)]) rfl rfl Tryd.func25 rfl (by kernel_rfl) rfl (u128Of_calls 1 _) ?_
  rintro _ w10 ⟨rfl, X1_0⟩
  replace hG := hG.keep X1_0 (by simp)
  replace hX : Chg w _ [] := (hX.trans X1_0).mono (by intro k hk hlt; simp at hk ⊢ <;> first | omega | grind)
  have zs1_0 := X1_0.size
  refine s_val rfl rfl (runs_as (v' := av fa) (runs_buildv (v := av (Sp.accId 1)) [(0, nv (0, 1))] rfl (by kernel_rfl)) (by rw [hfa])) ?_
  refine s_callf (xs := [.const (.int .u64 2)]) rfl rfl Tryd.func25 rfl (by kernel_rfl) rfl (u128Of_calls 2 _) ?_
  rintro _ w12 ⟨rfl, X1_2⟩
  replace hG := hG.keep X1_2 (by simp)
  replace hX : Chg w _ [] := (hX.trans X1_2).mono (by intro k hk hlt; simp at hk ⊢ <;> first | omega | grind)
  have zs1_2 := X1_2.size
  refine s_val rfl rfl (runs_as (v' := av fb) (runs_buildv (v := av (Sp.accId 2)) [(0, nv (0, 2))] rfl (by kernel_rfl)) (by rw [hfb])) ?_
  refine s_alloc ty28 rfl rfl ?_
  intro b1 w14 e1_4 z1_4 hb1 X1_4
  have s1_4_hX := hX.size
  replace hG := hG.keep X1_4 (by simp)
  replace hX : Chg w _ [] := (hX.trans X1_4).mono (by intro k hk hlt; simp at hk ⊢ <;> first | omega | grind)
  refine s_alloc ty28 rfl rfl ?_
  intro b2 w15 e1_5 z1_5 hb2 X1_5
  have s1_5_hX := hX.size
  have s1_5_hb1 := hb1.lt
  replace hG := hG.keep X1_5 (by simp)
  replace hX : Chg w _ [] := (hX.trans X1_5).mono (by intro k hk hlt; simp at hk ⊢ <;> first | omega | grind)
  replace hb1 := hb1.keep X1_5 (by simp)
  refine s_storeAll ty28 rfl rfl rfl hb1 (Ac.len hna) rfl (Ac.one _) ?_
  intro w16 z1_6 h1_6 X1_6
  replace hG := hG.keep X1_6 (by simp; omega)
  replace hX : Chg w _ [] := (hX.trans X1_6).mono (by intro k hk hlt; simp at hk ⊢ <;> first | omega | grind)
  replace hb2 := hb2.keep X1_6 (by simp; omega)
  replace hb1 := h1_6
  refine s_storeAll ty28 rfl rfl rfl hb2 (Ac.len hnb) rfl (Ac.one _) ?_
  intro w17 z1_7 h1_7 X1_7
  replace hG := hG.keep X1_7 (by simp; omega)
  replace hX : Chg w _ [] := (hX.trans X1_7).mono (by intro k hk hlt; simp at hk ⊢ <;> first | omega | grind)
  replace hb1 := hb1.keep X1_7 (by simp; omega)
  replace hb2 := h1_7
  refine s_nil ?_
  have hzX1 := hX.size
  have hl1 := hb1.lt
  have hl2 := hb2.lt
  refine hK2 _ _ ?_
  refine c_seq (fun K9 hK9 => ?_)
  have hJ9 : ∀ (b3 : Nat) (ap : Option Addr) (cp : Nat) (W : World), (GH B W ∧ Chg w W [] ∧ Blk W b1 fa.C 28 ∧ Blk W b2 fb.C 28 ∧ HsR W ap fp.length cp fp ∧ (∀ p, ap = some p → p.block < W.heap.size) ∧ Blk W b3 (pfC true fb (.slice ap fp.length cp)) 33) → ∀ ρ : Env, SubL ([(1, (.pointer (some ⟨b1, 0, none⟩))), (2, (.pointer (some ⟨b2, 0, none⟩))), (3, (.pointer (some ⟨b3, 0, none⟩)))]) ρ → K9 ρ W := by
    intro b3 ap cp W hI ρ hρ
    refine hK9 _ _ (c_sub _ hρ ?_)
    clear hρ
    obtain ⟨hG, hX, hb1, hb2, hH, hap, hb3⟩ := hI
    have hzX2 := hX.size
    have hl3 := hb3.lt
    refine c_seq (fun K10 hK10 => ?_)
    have hJ10 : ∀ (b4 : Nat) (W : World), (GH B W ∧ Chg w W [] ∧ Blk W b1 fa.C 28 ∧ Blk W b2 fb.C 28 ∧ Blk W b3 (pfC true fb (.slice ap fp.length cp)) 33 ∧ Blk W b4 (natsC .u8 (Sp.aroot 0 [fa, fb])) 26) → ∀ ρ : Env, SubL ([(5, .bool true), (1, (.pointer (some ⟨b1, 0, none⟩))), (2, (.pointer (some ⟨b2, 0, none⟩))), (3, (.pointer (some ⟨b3, 0, none⟩))), (4, (.pointer (some ⟨b4, 0, none⟩)))]) ρ → K10 ρ W := by
      intro b4 W hI ρ hρ
      refine hK10 _ _ (c_sub _ hρ ?_)
      clear hρ
      obtain ⟨hG, hX, hb1, hb2, hb3, hb4⟩ := hI
      have hzX3 := hX.size
      refine c_seqdraw [] ([]) (by kernel_rfl) ?_
      intro K11 hK11 wd4 Xd4 hS4
      replace hG := hG.keep Xd4 (by simp)
      replace hX : Chg w _ [] := (hX.trans Xd4).mono (by intro k hk hlt; simp at hk ⊢ <;> first | omega | grind)
      replace hb1 := hb1.keep Xd4 (by simp)
      replace hb2 := hb2.keep Xd4 (by simp)
      replace hb3 := hb3.keep Xd4 (by simp)
      replace hb4 := hb4.keep Xd4 (by simp)
      have zd4 := Xd4.size
      refine d_take 0 21 rfl (by kernel_rfl) rfl hS4 (fun wS hS => runs_move rfl) ?_
      refine d_take 1 22 rfl (by kernel_rfl) rfl hS4 (fun wS hS => runs_move rfl) ?_
      refine d_take 2 23 rfl (by kernel_rfl) rfl hS4 (fun wS hS => runs_fieldAddr Tryd.underlying33 rfl ty4 (by decide) rfl) ?_
      refine d_take 3 24 rfl (by kernel_rfl) rfl hS4 (fun wS hS => runs_dt (p := True) (runs_as (v' := .bool (decide True)) (runs_load1 ty4 rfl ((hb3.keep hS (by simp)).cell (o := 0) rfl)) rfl) trivial) ?_
      refine d_take 4 25 rfl (by kernel_rfl) rfl hS4 (fun wS hS => runs_pickt rfl rfl) ?_
      refine d_take 5 26 rfl (by kernel_rfl) rfl hS4 (fun wS hS => runs_move rfl) ?_
      refine d_take 6 27 rfl (by kernel_rfl) rfl hS4 (fun wS hS => runs_fieldAddr Tryd.underlying33 rfl ty28 (by decide) rfl) ?_
      refine d_take 7 28 rfl (by kernel_rfl) rfl hS4 (fun wS hS => runs_loadAgg ty28 rfl (pf_acc (hb3.keep hS (by simp)) hnb) (Ac.len hnb)) ?_
      refine d_take 8 29 rfl (by kernel_rfl) rfl hS4 (fun wS hS => runs_loadAgg ty28 rfl ((hb2.keep hS (by simp)).at) (Ac.len hnb)) ?_
      refine d_take 9 30 rfl (by kernel_rfl) rfl hS4 (fun wS hS => runs_dt (runs_acc_eq rfl rfl hnb hnb) rfl) ?_
      refine d_take 10 31 rfl (by kernel_rfl) rfl hS4 (fun wS hS => runs_pickt rfl rfl) ?_
      refine d_take 11 32 rfl (by kernel_rfl) rfl hS4 (fun wS hS => runs_move rfl) ?_
      refine d_take 12 33 rfl (by kernel_rfl) rfl hS4 (fun wS hS => runs_loadAgg ty26 rfl ((hb4.keep hS (by simp)).at) (by rw [natsC_length, (aroot_ok _ _).1])) ?_
      refine d_take 13 34 rfl (by kernel_rfl) rfl hS4 (fun wS hS => runs_loadAgg ty28 rfl ((hb1.keep hS (by simp)).at) (Ac.len hna)) ?_
      refine d_take 14 35 rfl (by kernel_rfl) rfl hS4 (fun wS hS => runs_loadAgg ty28 rfl ((hb2.keep hS (by simp)).at) (Ac.len hnb)) ?_
      refine d_only 15 rfl (by kernel_rfl) ?_
      refine s_lit (xs := [.tmp 34, .tmp 35]) Tryd.underlying38 ty28 rfl rfl rfl rfl rfl (av_sz (l := [fa, fb]) hnum) (by decide) (by decide) ?_
      intro b36 w415 e4_15 z4_15 hb36 X4_15
      have hz415 := X4_15.size
      replace hS4 : Chg wd4 _ [] := hS4.trans X4_15
      refine s_nil ⟨.inr hS4, ?_⟩
      refine d_only 16 rfl (by kernel_rfl) ?_
      refine s_callf (xs := [.const (.pointer none), .const (.int .i64 0), .tmp 36]) rfl rfl Tryd.func15 rfl (by kernel_rfl) rfl (aroot0 (k := 0) ((hG.keep hS4 (by simp))) (by have := hS4.size; omega) hwf (acs_lit [fa, fb] hb36 hnum rfl) (by decide)) ?_
      rintro _ w416 ⟨rfl, X4_16⟩
      have zs4_16 := X4_16.size
      replace hS4 : Chg wd4 _ [] := hS4.trans X4_16
      refine s_nil ⟨.inr hS4, ?_⟩
      refine d_take 17 38 rfl (by kernel_rfl) rfl hS4 (fun wS hS => runs_dt (runs_hv_eq rfl rfl (aroot_ok _ _) (aroot_ok _ _)) rfl) ?_
      refine d_take 18 39 rfl (by kernel_rfl) rfl hS4 (fun wS hS => runs_pickt rfl rfl) ?_
      refine d_take 19 40 rfl (by kernel_rfl) rfl hS4 (fun wS hS => runs_move rfl) ?_
      refine d_only 20 rfl (by kernel_rfl) ?_
      refine s_lit (xs := [.const (.int .u8 4)]) Tryd.underlying47 ty5 rfl rfl rfl rfl rfl (by simp [Value.cells]) (by decide) (by decide) ?_
      intro b41 w420 e4_20 z4_20 hb41 X4_20
      replace hS4 : Chg wd4 _ [] := hS4.trans X4_20
      refine s_nil ⟨.inr hS4, ?_⟩
      refine d_only 21 rfl (by kernel_rfl) ?_
      refine s_lit (xs := [.tmp 41]) Tryd.underlying51 ty47 rfl rfl rfl rfl rfl (by simp [Value.cells]) (by decide) (by decide) ?_
      intro b42 w421 e4_21 z4_21 hb42 X4_21
      have s4_21_hb41 := hb41.lt
      replace hb41 := hb41.keep X4_21 (by simp)
      replace hS4 : Chg wd4 _ [] := hS4.trans X4_21
      refine s_nil ⟨.inr hS4, ?_⟩
      refine d_only 22 rfl (by kernel_rfl) ?_
      refine s_callf (xs := [.const (.pointer none), .tmp 42]) rfl rfl Tryd.func18 rfl (by kernel_rfl) rfl (of0 (bss := [[4]]) ((hG.keep hS4 (by simp))) (by have := hS4.size; omega) (parts_one hb42 (lit1 hb41) (by simp)) (by simp)) ?_
      rintro _ w422 ⟨rfl, X4_22⟩
      have zs4_22 := X4_22.size
      replace hS4 : Chg wd4 _ [] := hS4.trans X4_22
      refine s_nil ⟨.inr hS4, ?_⟩
      refine d_only 23 rfl (by kernel_rfl) ?_
      refine s_callf (xs := [.const (.pointer none)]) rfl rfl Tryd.func19 rfl (by kernel_rfl) rfl (none0 ((hG.keep hS4 (by simp))) (by have := hS4.size; omega)) ?_
      rintro _ w423 ⟨rfl, X4_23⟩
      have zs4_23 := X4_23.size
      replace hS4 : Chg wd4 _ [] := hS4.trans X4_23
      refine s_nil ⟨.inr hS4, ?_⟩
      refine d_take 24 45 rfl (by kernel_rfl) rfl hS4 (fun wS hS => runs_dt (runs_hv_eq rfl rfl (sha_ok _) anone_ok) (by simp [Sp.anone])) ?_
      refine d_take 25 46 rfl (by kernel_rfl) rfl hS4 (fun wS hS => runs_pickt rfl rfl) ?_
      refine d_take 26 0 rfl (by kernel_rfl) rfl hS4 (fun wS hS => runs_assign rfl) ?_
      refine d_done (by kernel_rfl) ?_
      replace hG := hG.keep hS4 (by simp)
      replace hX : Chg w _ [] := (hX.trans hS4).mono (by intro k hk hlt; simp at hk ⊢ <;> first | omega | grind)
      replace hb1 := hb1.keep hS4 (by simp)
      replace hb2 := hb2.keep hS4 (by simp)
      replace hb3 := hb3.keep hS4 (by simp)
      replace hb4 := hb4.keep hS4 (by simp)
      refine hK11 _ _ ?_
      refine c_ret ?_
      refine hret _ _ ?_
      exact ends1 (reads_tmp rfl) ⟨rfl, hX⟩
    refine c_drawX [] ([]) (by kernel_rfl) ?_
    intro wd3 Xd3 hS3
    replace hG := hG.keep Xd3 (by simp)
    replace hX : Chg w _ [] := (hX.trans Xd3).mono (by intro k hk hlt; simp at hk ⊢ <;> first | omega | grind)
    replace hb1 := hb1.keep Xd3 (by simp)
    replace hb2 := hb2.keep Xd3 (by simp)
    replace hH := hH.keep0 Xd3
    replace hb3 := hb3.keep Xd3 (by simp)
    have zd3 := Xd3.size
    refine d_take 1 17 rfl (by kernel_rfl) rfl hS3 (fun wS hS => runs_loadAgg ty33 rfl ((hb3.keep hS (by simp)).at) (pfC_len hnb)) ?_
    refine d_two 0 6 rfl rfl (by kernel_rfl) ?_ ?_
    · refine s_callf (xs := [.const (.int .u64 2)]) rfl rfl Tryd.func25 rfl (by kernel_rfl) rfl (u128Of_calls 2 _) ?_
      rintro _ w30 ⟨rfl, X3_0⟩
      replace hG := hG.keep X3_0 (by simp)
      replace hH := hH.keep0 X3_0
      have zs3_0 := X3_0.size
      have hz30 := X3_0.size
      replace hS3 : Chg wd3 _ [] := hS3.trans X3_0
      refine s_nil ⟨.inr hS3, ?_⟩
      refine d_two 2 6 rfl rfl (by kernel_rfl) ?_ ?_
      · refine s_callf (xs := [.const (.pointer none), .tmp 16, .tmp 17]) rfl rfl Tryd.func12 rfl (by kernel_rfl) rfl (climbS0 (id := (0, 2)) (th := true) (r := fb) (path := fp) hG (by have := hS3.size; omega) hn2 hnb hH (fun p hp => by have := hap p hp; have := hS3.size; omega) (by omega)) ?_
        rintro _ w32 ⟨rfl, X3_2⟩
        replace hG := hG.keep X3_2 (by simp)
        replace hH := hH.keep0 X3_2
        have zs3_2 := X3_2.size
        rw [show (Sp.aclimbR (0, 2) true fb fp) = (Sp.aroot 0 [fa, fb], true) from hpc]
        have hz32 := X3_2.size
        replace hS3 : Chg wd3 _ [] := hS3.trans X3_2
        refine s_nil ⟨.inr hS3, ?_⟩
        refine d_take 3 15 rfl (by kernel_rfl) rfl hS3 (fun wS hS => runs_move rfl) ?_
        refine d_take 4 19 rfl (by kernel_rfl) rfl hS3 (fun wS hS => runs_extract rfl rfl) ?_
        refine d_take 5 20 rfl (by kernel_rfl) rfl hS3 (fun wS hS => runs_extract rfl rfl) ?_
        refine d_only 6 rfl (by kernel_rfl) ?_
        refine s_alloc ty26 rfl rfl ?_
        intro b4 w36 e3_6 z3_6 hb4 X3_6
        replace hG := hG.keep X3_6 (by simp)
        replace hH := hH.keep0 X3_6
        replace hS3 : Chg wd3 _ [] := hS3.trans X3_6
        refine s_nil ⟨.inr hS3, ?_⟩
        refine d_only 7 rfl (by kernel_rfl) ?_
        refine s_storeAll ty26 rfl rfl rfl hb4 (by rw [natsC_length, (aroot_ok _ _).1]) rfl (natsC_one _ _) ?_
        intro w37 z3_7 h3_7 X3_7
        replace hG := hG.keep X3_7 (by simp; omega)
        replace hb4 := h3_7
        replace hS3 : Chg wd3 _ [] := (hS3.trans X3_7).mono (by intro k hk hlt; simp at hk; omega)
        refine s_nil ⟨.inr hS3, ?_⟩
        refine d_take 8 5 rfl (by kernel_rfl) rfl hS3 (fun wS hS => runs_assign rfl) ?_
        refine d_done (by kernel_rfl) ?_
        replace hX : Chg w _ [] := (hX.trans hS3).mono (by intro k hk hlt; simp at hk ⊢ <;> first | omega | grind)
        replace hb1 := hb1.keep hS3 (by simp)
        replace hb2 := hb2.keep hS3 (by simp)
        replace hb3 := hb3.keep hS3 (by simp)
        exact hJ10 b4 _ ⟨hG, hX, hb1, hb2, hb3, hb4⟩ _ ⟨rfl, rfl, rfl, rfl, rfl, trivial⟩
      · refine s_alloc ty26 rfl rfl ?_
        intro b4 w36 e3_6 z3_6 hb4 X3_6
        replace hG := hG.keep X3_6 (by simp)
        replace hH := hH.keep0 X3_6
        replace hS3 : Chg wd3 _ [] := hS3.trans X3_6
        refine s_nil ⟨.inr hS3, ?_⟩
        refine d_only 2 rfl (by kernel_rfl) ?_
        refine s_callf (xs := [.const (.pointer none), .tmp 16, .tmp 17]) rfl rfl Tryd.func12 rfl (by kernel_rfl) rfl (climbS0 (id := (0, 2)) (th := true) (r := fb) (path := fp) hG (by have := hS3.size; omega) hn2 hnb hH (fun p hp => by have := hap p hp; have := hS3.size; omega) (by omega)) ?_
        rintro _ w32 ⟨rfl, X3_2⟩
        replace hG := hG.keep X3_2 (by simp)
        replace hH := hH.keep0 X3_2
        replace hb4 := hb4.keep X3_2 (by simp)
        have zs3_2 := X3_2.size
        rw [show (Sp.aclimbR (0, 2) true fb fp) = (Sp.aroot 0 [fa, fb], true) from hpc]
        have hz32 := X3_2.size
        replace hS3 : Chg wd3 _ [] := hS3.trans X3_2
        refine s_nil ⟨.inr hS3, ?_⟩
        refine d_take 3 15 rfl (by kernel_rfl) rfl hS3 (fun wS hS => runs_move rfl) ?_
        refine d_take 4 19 rfl (by kernel_rfl) rfl hS3 (fun wS hS => runs_extract rfl rfl) ?_
        refine d_take 5 20 rfl (by kernel_rfl) rfl hS3 (fun wS hS => runs_extract rfl rfl) ?_
        refine d_only 7 rfl (by kernel_rfl) ?_
        refine s_storeAll ty26 rfl rfl rfl hb4 (by rw [natsC_length, (aroot_ok _ _).1]) rfl (natsC_one _ _) ?_
        intro w37 z3_7 h3_7 X3_7
        replace hG := hG.keep X3_7 (by simp; omega)
        replace hb4 := h3_7
        replace hS3 : Chg wd3 _ [] := (hS3.trans X3_7).mono (by intro k hk hlt; simp at hk; omega)
        refine s_nil ⟨.inr hS3, ?_⟩
        refine d_take 8 5 rfl (by kernel_rfl) rfl hS3 (fun wS hS => runs_assign rfl) ?_
        refine d_done (by kernel_rfl) ?_
        replace hX : Chg w _ [] := (hX.trans hS3).mono (by intro k hk hlt; simp at hk ⊢ <;> first | omega | grind)
        replace hb1 := hb1.keep hS3 (by simp)
        replace hb2 := hb2.keep hS3 (by simp)
        replace hb3 := hb3.keep hS3 (by simp)
        exact hJ10 b4 _ ⟨hG, hX, hb1, hb2, hb3, hb4⟩ _ ⟨rfl, rfl, rfl, rfl, rfl, trivial⟩
    · refine s_alloc ty26 rfl rfl ?_
      intro b4 w36 e3_6 z3_6 hb4 X3_6
      replace hG := hG.keep X3_6 (by simp)
      replace hH := hH.keep0 X3_6
      replace hS3 : Chg wd3 _ [] := hS3.trans X3_6
      refine s_nil ⟨.inr hS3, ?_⟩
      refine d_only 0 rfl (by kernel_rfl) ?_
      refine s_callf (xs := [.const (.int .u64 2)]) rfl rfl Tryd.func25 rfl (by kernel_rfl) rfl (u128Of_calls 2 _) ?_
      rintro _ w30 ⟨rfl, X3_0⟩
      replace hG := hG.keep X3_0 (by simp)
      replace hH := hH.keep0 X3_0
      replace hb4 := hb4.keep X3_0 (by simp)
      have zs3_0 := X3_0.size
      have hz30 := X3_0.size
      replace hS3 : Chg wd3 _ [] := hS3.trans X3_0
      refine s_nil ⟨.inr hS3, ?_⟩
      refine d_only 2 rfl (by kernel_rfl) ?_
      refine s_callf (xs := [.const (.pointer none), .tmp 16, .tmp 17]) rfl rfl Tryd.func12 rfl (by kernel_rfl) rfl (climbS0 (id := (0, 2)) (th := true) (r := fb) (path := fp) hG (by have := hS3.size; omega) hn2 hnb hH (fun p hp => by have := hap p hp; have := hS3.size; omega) (by omega)) ?_
      rintro _ w32 ⟨rfl, X3_2⟩
      replace hG := hG.keep X3_2 (by simp)
      replace hH := hH.keep0 X3_2
      replace hb4 := hb4.keep X3_2 (by simp)
      have zs3_2 := X3_2.size
      rw [show (Sp.aclimbR (0, 2) true fb fp) = (Sp.aroot 0 [fa, fb], true) from hpc]
      have hz32 := X3_2.size
      replace hS3 : Chg wd3 _ [] := hS3.trans X3_2
      refine s_nil ⟨.inr hS3, ?_⟩
      refine d_take 3 15 rfl (by kernel_rfl) rfl hS3 (fun wS hS => runs_move rfl) ?_
      refine d_take 4 19 rfl (by kernel_rfl) rfl hS3 (fun wS hS => runs_extract rfl rfl) ?_
      refine d_take 5 20 rfl (by kernel_rfl) rfl hS3 (fun wS hS => runs_extract rfl rfl) ?_
      refine d_only 7 rfl (by kernel_rfl) ?_
      refine s_storeAll ty26 rfl rfl rfl hb4 (by rw [natsC_length, (aroot_ok _ _).1]) rfl (natsC_one _ _) ?_
      intro w37 z3_7 h3_7 X3_7
      replace hG := hG.keep X3_7 (by simp; omega)
      replace hb4 := h3_7
      replace hS3 : Chg wd3 _ [] := (hS3.trans X3_7).mono (by intro k hk hlt; simp at hk; omega)
      refine s_nil ⟨.inr hS3, ?_⟩
      refine d_take 8 5 rfl (by kernel_rfl) rfl hS3 (fun wS hS => runs_assign rfl) ?_
      refine d_done (by kernel_rfl) ?_
      replace hX : Chg w _ [] := (hX.trans hS3).mono (by intro k hk hlt; simp at hk ⊢ <;> first | omega | grind)
      replace hb1 := hb1.keep hS3 (by simp)
      replace hb2 := hb2.keep hS3 (by simp)
      replace hb3 := hb3.keep hS3 (by simp)
      exact hJ10 b4 _ ⟨hG, hX, hb1, hb2, hb3, hb4⟩ _ ⟨rfl, rfl, rfl, rfl, rfl, trivial⟩
  refine c_drawX [6] ([]) (by kernel_rfl) ?_
  intro wd2 Xd2 hS2
  replace hG := hG.keep Xd2 (by simp)
  replace hX : Chg w _ [] := (hX.trans Xd2).mono (by intro k hk hlt; simp at hk ⊢ <;> first | omega | grind)
  replace hb1 := hb1.keep Xd2 (by simp)
  replace hb2 := hb2.keep Xd2 (by simp)
  have zd2 := Xd2.size
  refine d_take 1 11 rfl (by kernel_rfl) rfl hS2 (fun wS hS => runs_loadAgg ty28 rfl ((hb1.keep hS (by simp)).at) (Ac.len hna)) ?_
  refine d_take 2 12 rfl (by kernel_rfl) rfl hS2 (fun wS hS => runs_loadAgg ty28 rfl ((hb2.keep hS (by simp)).at) (Ac.len hnb)) ?_
  refine d_three 0 3 5 rfl rfl rfl (by kernel_rfl) ?_ ?_ ?_
  · refine s_callf (xs := [.const (.int .u64 2)]) rfl rfl Tryd.func25 rfl (by kernel_rfl) rfl (u128Of_calls 2 _) ?_
    rintro _ w20 ⟨rfl, X2_0⟩
    replace hG := hG.keep X2_0 (by simp)
    have zs2_0 := X2_0.size
    have hz20 := X2_0.size
    replace hS2 : Chg wd2 _ [] := hS2.trans X2_0
    refine s_nil ⟨.inr hS2, ?_⟩
    refine d_two 3 5 rfl rfl (by kernel_rfl) ?_ ?_
    · refine s_lit (xs := [.tmp 11, .tmp 12]) Tryd.underlying38 ty28 rfl rfl rfl rfl rfl (av_sz (l := [fa, fb]) hnum) (by decide) (by decide) ?_
      intro b13 w23 e2_3 z2_3 hb13 X2_3
      replace hG := hG.keep X2_3 (by simp)
      have hz23 := X2_3.size
      replace hS2 : Chg wd2 _ [] := hS2.trans X2_3
      refine s_nil ⟨.inr hS2, ?_⟩
      refine d_two 4 5 rfl rfl (by kernel_rfl) ?_ ?_
      · refine s_callf (xs := [.const (.pointer none), .tmp 10, .tmp 13]) rfl rfl Tryd.func16 rfl (by kernel_rfl) rfl (prove_calls B (0, 2) [fa, fb] _ 2 2 _ hG (by have := hS2.size; omega) hn2 hwf (acs_lit [fa, fb] hb13 hnum rfl) (by decide)) ?_
        rintro _ w24 ⟨sp, rfl, hown, X2_4⟩
        replace hG := hG.keep X2_4 (by simp)
        have zs2_4 := X2_4.size
        have hz24 := X2_4.size
        rw [hen] at *
        rw [← hfp] at hown
        obtain ⟨ap, cp, rfl, hH, hbo⟩ := own_hs hown hpo rfl
        have hapr : ∀ p, ap = some p → p.block < w24.heap.size := fun p hp => (hown.lt p.block (by rw [hbo, hp]; rfl)).2
        have hapl := fun p (hp : ap = some p) => (hown.lt p.block (by rw [hbo, hp]; rfl)).1
        replace hS2 : Chg wd2 _ [] := hS2.trans X2_4
        refine s_nil ⟨.inr hS2, ?_⟩
        refine d_only 5 rfl (by kernel_rfl) ?_
        refine s_alloc ty33 rfl rfl ?_
        intro b3 w25 e2_5 z2_5 hb3 X2_5
        replace hG := hG.keep X2_5 (by simp)
        replace hH := hH.keep0 X2_5
        have hz25 := X2_5.size
        replace hS2 : Chg wd2 _ [] := hS2.trans X2_5
        refine s_nil ⟨.inr hS2, ?_⟩
        refine d_only 6 rfl (by kernel_rfl) ?_
        replace hX : Chg w _ [] := (hX.trans hS2).mono (by intro k hk hlt; simp at hk ⊢ <;> first | omega | grind)
        replace hb1 := hb1.keep hS2 (by simp)
        replace hb2 := hb2.keep hS2 (by simp)
        refine s_storeAll ty33 rfl rfl rfl hb3 (pfC_len hnb) rfl (pfC_one rfl) ?_
        intro w26 z2_6 h2_6 X2_6
        replace hX : Chg w _ [] := (hX.trans X2_6).mono (by intro k hk hlt; simp at hk ⊢ <;> first | omega | grind)
        replace hb1 := hb1.keep X2_6 (by simp; omega)
        replace hb2 := hb2.keep X2_6 (by simp; omega)
        replace hG := hG.keep X2_6 (by simp; omega)
        replace hH := hH.keep X2_6 (fun p hp => by have := hapr p hp; have := hapl p hp; simp; omega)
        replace hb3 := h2_6
        have hz26 := X2_6.size
        refine s_nil ⟨.inl rfl, ?_⟩
        refine d_done (by kernel_rfl) ?_
        exact hJ9 b3 ap cp _ ⟨hG, hX, hb1, hb2, hH, fun p hp => by have := hapr p hp; omega, hb3⟩ _ ⟨rfl, rfl, rfl, trivial⟩
      · refine s_alloc ty33 rfl rfl ?_
        intro b3 w25 e2_5 z2_5 hb3 X2_5
        have s2_5_hb13 := hb13.lt
        replace hG := hG.keep X2_5 (by simp)
        replace hb13 := hb13.keep X2_5 (by simp)
        have hz25 := X2_5.size
        replace hS2 : Chg wd2 _ [] := hS2.trans X2_5
        refine s_nil ⟨.inr hS2, ?_⟩
        refine d_only 4 rfl (by kernel_rfl) ?_
        refine s_callf (xs := [.const (.pointer none), .tmp 10, .tmp 13]) rfl rfl Tryd.func16 rfl (by kernel_rfl) rfl (prove_calls B (0, 2) [fa, fb] _ 2 2 _ hG (by have := hS2.size; omega) hn2 hwf (acs_lit [fa, fb] hb13 hnum rfl) (by decide)) ?_
        rintro _ w24 ⟨sp, rfl, hown, X2_4⟩
        replace hG := hG.keep X2_4 (by simp)
        replace hb3 := hb3.keep X2_4 (by simp)
        have zs2_4 := X2_4.size
        have hz24 := X2_4.size
        rw [hen] at *
        rw [← hfp] at hown
        obtain ⟨ap, cp, rfl, hH, hbo⟩ := own_hs hown hpo rfl
        have hapr : ∀ p, ap = some p → p.block < w24.heap.size := fun p hp => (hown.lt p.block (by rw [hbo, hp]; rfl)).2
        have hapl := fun p (hp : ap = some p) => (hown.lt p.block (by rw [hbo, hp]; rfl)).1
        replace hS2 : Chg wd2 _ [] := hS2.trans X2_4
        refine s_nil ⟨.inr hS2, ?_⟩
        refine d_only 6 rfl (by kernel_rfl) ?_
        replace hX : Chg w _ [] := (hX.trans hS2).mono (by intro k hk hlt; simp at hk ⊢ <;> first | omega | grind)
        replace hb1 := hb1.keep hS2 (by simp)
        replace hb2 := hb2.keep hS2 (by simp)
        refine s_storeAll ty33 rfl rfl rfl hb3 (pfC_len hnb) rfl (pfC_one rfl) ?_
        intro w26 z2_6 h2_6 X2_6
        replace hX : Chg w _ [] := (hX.trans X2_6).mono (by intro k hk hlt; simp at hk ⊢ <;> first | omega | grind)
        replace hb1 := hb1.keep X2_6 (by simp; omega)
        replace hb2 := hb2.keep X2_6 (by simp; omega)
        replace hG := hG.keep X2_6 (by simp; omega)
        replace hH := hH.keep X2_6 (fun p hp => by have := hapr p hp; have := hapl p hp; simp; omega)
        replace hb3 := h2_6
        have hz26 := X2_6.size
        refine s_nil ⟨.inl rfl, ?_⟩
        refine d_done (by kernel_rfl) ?_
        exact hJ9 b3 ap cp _ ⟨hG, hX, hb1, hb2, hH, fun p hp => by have := hapr p hp; omega, hb3⟩ _ ⟨rfl, rfl, rfl, trivial⟩
    · refine s_alloc ty33 rfl rfl ?_
      intro b3 w25 e2_5 z2_5 hb3 X2_5
      replace hG := hG.keep X2_5 (by simp)
      have hz25 := X2_5.size
      replace hS2 : Chg wd2 _ [] := hS2.trans X2_5
      refine s_nil ⟨.inr hS2, ?_⟩
      refine d_only 3 rfl (by kernel_rfl) ?_
      refine s_lit (xs := [.tmp 11, .tmp 12]) Tryd.underlying38 ty28 rfl rfl rfl rfl rfl (av_sz (l := [fa, fb]) hnum) (by decide) (by decide) ?_
      intro b13 w23 e2_3 z2_3 hb13 X2_3
      have s2_3_hb3 := hb3.lt
      replace hG := hG.keep X2_3 (by simp)
      replace hb3 := hb3.keep X2_3 (by simp)
      have hz23 := X2_3.size
      replace hS2 : Chg wd2 _ [] := hS2.trans X2_3
      refine s_nil ⟨.inr hS2, ?_⟩
      refine d_only 4 rfl (by kernel_rfl) ?_
      refine s_callf (xs := [.const (.pointer none), .tmp 10, .tmp 13]) rfl rfl Tryd.func16 rfl (by kernel_rfl) rfl (prove_calls B (0, 2) [fa, fb] _ 2 2 _ hG (by have := hS2.size; omega) hn2 hwf (acs_lit [fa, fb] hb13 hnum rfl) (by decide)) ?_
      rintro _ w24 ⟨sp, rfl, hown, X2_4⟩
      replace hG := hG.keep X2_4 (by simp)
      replace hb3 := hb3.keep X2_4 (by simp)
      have zs2_4 := X2_4.size
      have hz24 := X2_4.size
      rw [hen] at *
      rw [← hfp] at hown
      obtain ⟨ap, cp, rfl, hH, hbo⟩ := own_hs hown hpo rfl
      have hapr : ∀ p, ap = some p → p.block < w24.heap.size := fun p hp => (hown.lt p.block (by rw [hbo, hp]; rfl)).2
      have hapl := fun p (hp : ap = some p) => (hown.lt p.block (by rw [hbo, hp]; rfl)).1
      replace hS2 : Chg wd2 _ [] := hS2.trans X2_4
      refine s_nil ⟨.inr hS2, ?_⟩
      refine d_only 6 rfl (by kernel_rfl) ?_
      replace hX : Chg w _ [] := (hX.trans hS2).mono (by intro k hk hlt; simp at hk ⊢ <;> first | omega | grind)
      replace hb1 := hb1.keep hS2 (by simp)
      replace hb2 := hb2.keep hS2 (by simp)
      refine s_storeAll ty33 rfl rfl rfl hb3 (pfC_len hnb) rfl (pfC_one rfl) ?_
      intro w26 z2_6 h2_6 X2_6
      replace hX : Chg w _ [] := (hX.trans X2_6).mono (by intro k hk hlt; simp at hk ⊢ <;> first | omega | grind)
      replace hb1 := hb1.keep X2_6 (by simp; omega)
      replace hb2 := hb2.keep X2_6 (by simp; omega)
      replace hG := hG.keep X2_6 (by simp; omega)
      replace hH := hH.keep X2_6 (fun p hp => by have := hapr p hp; have := hapl p hp; simp; omega)
      replace hb3 := h2_6
      have hz26 := X2_6.size
      refine s_nil ⟨.inl rfl, ?_⟩
      refine d_done (by kernel_rfl) ?_
      exact hJ9 b3 ap cp _ ⟨hG, hX, hb1, hb2, hH, fun p hp => by have := hapr p hp; omega, hb3⟩ _ ⟨rfl, rfl, rfl, trivial⟩
  · refine s_lit (xs := [.tmp 11, .tmp 12]) Tryd.underlying38 ty28 rfl rfl rfl rfl rfl (av_sz (l := [fa, fb]) hnum) (by decide) (by decide) ?_
    intro b13 w23 e2_3 z2_3 hb13 X2_3
    replace hG := hG.keep X2_3 (by simp)
    have hz23 := X2_3.size
    replace hS2 : Chg wd2 _ [] := hS2.trans X2_3
    refine s_nil ⟨.inr hS2, ?_⟩
    refine d_two 0 5 rfl rfl (by kernel_rfl) ?_ ?_
    · refine s_callf (xs := [.const (.int .u64 2)]) rfl rfl Tryd.func25 rfl (by kernel_rfl) rfl (u128Of_calls 2 _) ?_
      rintro _ w20 ⟨rfl, X2_0⟩
      replace hG := hG.keep X2_0 (by simp)
      replace hb13 := hb13.keep X2_0 (by simp)
      have zs2_0 := X2_0.size
      have hz20 := X2_0.size
      replace hS2 : Chg wd2 _ [] := hS2.trans X2_0
      refine s_nil ⟨.inr hS2, ?_⟩
      refine d_two 4 5 rfl rfl (by kernel_rfl) ?_ ?_
      · refine s_callf (xs := [.const (.pointer none), .tmp 10, .tmp 13]) rfl rfl Tryd.func16 rfl (by kernel_rfl) rfl (prove_calls B (0, 2) [fa, fb] _ 2 2 _ hG (by have := hS2.size; omega) hn2 hwf (acs_lit [fa, fb] hb13 hnum rfl) (by decide)) ?_
        rintro _ w24 ⟨sp, rfl, hown, X2_4⟩
        replace hG := hG.keep X2_4 (by simp)
        have zs2_4 := X2_4.size
        have hz24 := X2_4.size
        rw [hen] at *
        rw [← hfp] at hown
        obtain ⟨ap, cp, rfl, hH, hbo⟩ := own_hs hown hpo rfl
        have hapr : ∀ p, ap = some p → p.block < w24.heap.size := fun p hp => (hown.lt p.block (by rw [hbo, hp]; rfl)).2
        have hapl := fun p (hp : ap = some p) => (hown.lt p.block (by rw [hbo, hp]; rfl)).1
        replace hS2 : Chg wd2 _ [] := hS2.trans X2_4
        refine s_nil ⟨.inr hS2, ?_⟩
        refine d_only 5 rfl (by kernel_rfl) ?_
        refine s_alloc ty33 rfl rfl ?_
        intro b3 w25 e2_5 z2_5 hb3 X2_5
        replace hG := hG.keep X2_5 (by simp)
        replace hH := hH.keep0 X2_5
        have hz25 := X2_5.size
        replace hS2 : Chg wd2 _ [] := hS2.trans X2_5
        refine s_nil ⟨.inr hS2, ?_⟩
        refine d_only 6 rfl (by kernel_rfl) ?_
        replace hX : Chg w _ [] := (hX.trans hS2).mono (by intro k hk hlt; simp at hk ⊢ <;> first | omega | grind)
        replace hb1 := hb1.keep hS2 (by simp)
        replace hb2 := hb2.keep hS2 (by simp)
        refine s_storeAll ty33 rfl rfl rfl hb3 (pfC_len hnb) rfl (pfC_one rfl) ?_
        intro w26 z2_6 h2_6 X2_6
        replace hX : Chg w _ [] := (hX.trans X2_6).mono (by intro k hk hlt; simp at hk ⊢ <;> first | omega | grind)
        replace hb1 := hb1.keep X2_6 (by simp; omega)
        replace hb2 := hb2.keep X2_6 (by simp; omega)
        replace hG := hG.keep X2_6 (by simp; omega)
        replace hH := hH.keep X2_6 (fun p hp => by have := hapr p hp; have := hapl p hp; simp; omega)
        replace hb3 := h2_6
        have hz26 := X2_6.size
        refine s_nil ⟨.inl rfl, ?_⟩
        refine d_done (by kernel_rfl) ?_
        exact hJ9 b3 ap cp _ ⟨hG, hX, hb1, hb2, hH, fun p hp => by have := hapr p hp; omega, hb3⟩ _ ⟨rfl, rfl, rfl, trivial⟩
      · refine s_alloc ty33 rfl rfl ?_
        intro b3 w25 e2_5 z2_5 hb3 X2_5
        have s2_5_hb13 := hb13.lt
        replace hG := hG.keep X2_5 (by simp)
        replace hb13 := hb13.keep X2_5 (by simp)
        have hz25 := X2_5.size
        replace hS2 : Chg wd2 _ [] := hS2.trans X2_5
        refine s_nil ⟨.inr hS2, ?_⟩
        refine d_only 4 rfl (by kernel_rfl) ?_
        refine s_callf (xs := [.const (.pointer none), .tmp 10, .tmp 13]) rfl rfl Tryd.func16 rfl (by kernel_rfl) rfl (prove_calls B (0, 2) [fa, fb] _ 2 2 _ hG (by have := hS2.size; omega) hn2 hwf (acs_lit [fa, fb] hb13 hnum rfl) (by decide)) ?_
        rintro _ w24 ⟨sp, rfl, hown, X2_4⟩
        replace hG := hG.keep X2_4 (by simp)
        replace hb3 := hb3.keep X2_4 (by simp)
        have zs2_4 := X2_4.size
        have hz24 := X2_4.size
        rw [hen] at *
        rw [← hfp] at hown
        obtain ⟨ap, cp, rfl, hH, hbo⟩ := own_hs hown hpo rfl
        have hapr : ∀ p, ap = some p → p.block < w24.heap.size := fun p hp => (hown.lt p.block (by rw [hbo, hp]; rfl)).2
        have hapl := fun p (hp : ap = some p) => (hown.lt p.block (by rw [hbo, hp]; rfl)).1
        replace hS2 : Chg wd2 _ [] := hS2.trans X2_4
        refine s_nil ⟨.inr hS2, ?_⟩
        refine d_only 6 rfl (by kernel_rfl) ?_
        replace hX : Chg w _ [] := (hX.trans hS2).mono (by intro k hk hlt; simp at hk ⊢ <;> first | omega | grind)
        replace hb1 := hb1.keep hS2 (by simp)
        replace hb2 := hb2.keep hS2 (by simp)
        refine s_storeAll ty33 rfl rfl rfl hb3 (pfC_len hnb) rfl (pfC_one rfl) ?_
        intro w26 z2_6 h2_6 X2_6
        replace hX : Chg w _ [] := (hX.trans X2_6).mono (by intro k hk hlt; simp at hk ⊢ <;> first | omega | grind)
        replace hb1 := hb1.keep X2_6 (by simp; omega)
        replace hb2 := hb2.keep X2_6 (by simp; omega)
        replace hG := hG.keep X2_6 (by simp; omega)
        replace hH := hH.keep X2_6 (fun p hp => by have := hapr p hp; have := hapl p hp; simp; omega)
        replace hb3 := h2_6
        have hz26 := X2_6.size
        refine s_nil ⟨.inl rfl, ?_⟩
        refine d_done (by kernel_rfl) ?_
        exact hJ9 b3 ap cp _ ⟨hG, hX, hb1, hb2, hH, fun p hp => by have := hapr p hp; omega, hb3⟩ _ ⟨rfl, rfl, rfl, trivial⟩
    · refine s_alloc ty33 rfl rfl ?_
      intro b3 w25 e2_5 z2_5 hb3 X2_5
      have s2_5_hb13 := hb13.lt
      replace hG := hG.keep X2_5 (by simp)
      replace hb13 := hb13.keep X2_5 (by simp)
      have hz25 := X2_5.size
      replace hS2 : Chg wd2 _ [] := hS2.trans X2_5
      refine s_nil ⟨.inr hS2, ?_⟩
      refine d_only 0 rfl (by kernel_rfl) ?_
      refine s_callf (xs := [.const (.int .u64 2)]) rfl rfl Tryd.func25 rfl (by kernel_rfl) rfl (u128Of_calls 2 _) ?_
      rintro _ w20 ⟨rfl, X2_0⟩
      replace hG := hG.keep X2_0 (by simp)
      replace hb13 := hb13.keep X2_0 (by simp)
      replace hb3 := hb3.keep X2_0 (by simp)
      have zs2_0 := X2_0.size
      have hz20 := X2_0.size
      replace hS2 : Chg wd2 _ [] := hS2.trans X2_0
      refine s_nil ⟨.inr hS2, ?_⟩
      refine d_only 4 rfl (by kernel_rfl) ?_
      refine s_callf (xs := [.const (.pointer none), .tmp 10, .tmp 13]) rfl rfl Tryd.func16 rfl (by kernel_rfl) rfl (prove_calls B (0, 2) [fa, fb] _ 2 2 _ hG (by have := hS2.size; omega) hn2 hwf (acs_lit [fa, fb] hb13 hnum rfl) (by decide)) ?_
      rintro _ w24 ⟨sp, rfl, hown, X2_4⟩
      replace hG := hG.keep X2_4 (by simp)
      replace hb3 := hb3.keep X2_4 (by simp)
      have zs2_4 := X2_4.size
      have hz24 := X2_4.size
      rw [hen] at *
      rw [← hfp] at hown
      obtain ⟨ap, cp, rfl, hH, hbo⟩ := own_hs hown hpo rfl
      have hapr : ∀ p, ap = some p → p.block < w24.heap.size := fun p hp => (hown.lt p.block (by rw [hbo, hp]; rfl)).2
      have hapl := fun p (hp : ap = some p) => (hown.lt p.block (by rw [hbo, hp]; rfl)).1
      replace hS2 : Chg wd2 _ [] := hS2.trans X2_4
      refine s_nil ⟨.inr hS2, ?_⟩
      refine d_only 6 rfl (by kernel_rfl) ?_
      replace hX : Chg w _ [] := (hX.trans hS2).mono (by intro k hk hlt; simp at hk ⊢ <;> first | omega | grind)
      replace hb1 := hb1.keep hS2 (by simp)
      replace hb2 := hb2.keep hS2 (by simp)
      refine s_storeAll ty33 rfl rfl rfl hb3 (pfC_len hnb) rfl (pfC_one rfl) ?_
      intro w26 z2_6 h2_6 X2_6
      replace hX : Chg w _ [] := (hX.trans X2_6).mono (by intro k hk hlt; simp at hk ⊢ <;> first | omega | grind)
      replace hb1 := hb1.keep X2_6 (by simp; omega)
      replace hb2 := hb2.keep X2_6 (by simp; omega)
      replace hG := hG.keep X2_6 (by simp; omega)
      replace hH := hH.keep X2_6 (fun p hp => by have := hapr p hp; have := hapl p hp; simp; omega)
      replace hb3 := h2_6
      have hz26 := X2_6.size
      refine s_nil ⟨.inl rfl, ?_⟩
      refine d_done (by kernel_rfl) ?_
      exact hJ9 b3 ap cp _ ⟨hG, hX, hb1, hb2, hH, fun p hp => by have := hapr p hp; omega, hb3⟩ _ ⟨rfl, rfl, rfl, trivial⟩
  · refine s_alloc ty33 rfl rfl ?_
    intro b3 w25 e2_5 z2_5 hb3 X2_5
    replace hG := hG.keep X2_5 (by simp)
    have hz25 := X2_5.size
    replace hS2 : Chg wd2 _ [] := hS2.trans X2_5
    refine s_nil ⟨.inr hS2, ?_⟩
    refine d_two 0 3 rfl rfl (by kernel_rfl) ?_ ?_
    · refine s_callf (xs := [.const (.int .u64 2)]) rfl rfl Tryd.func25 rfl (by kernel_rfl) rfl (u128Of_calls 2 _) ?_
      rintro _ w20 ⟨rfl, X2_0⟩
      replace hG := hG.keep X2_0 (by simp)
      replace hb3 := hb3.keep X2_0 (by simp)
      have zs2_0 := X2_0.size
      have hz20 := X2_0.size
      replace hS2 : Chg wd2 _ [] := hS2.trans X2_0
      refine s_nil ⟨.inr hS2, ?_⟩
      refine d_only 3 rfl (by kernel_rfl) ?_
      refine s_lit (xs := [.tmp 11, .tmp 12]) Tryd.underlying38 ty28 rfl rfl rfl rfl rfl (av_sz (l := [fa, fb]) hnum) (by decide) (by decide) ?_
      intro b13 w23 e2_3 z2_3 hb13 X2_3
      have s2_3_hb3 := hb3.lt
      replace hG := hG.keep X2_3 (by simp)
      replace hb3 := hb3.keep X2_3 (by simp)
      have hz23 := X2_3.size
      replace hS2 : Chg wd2 _ [] := hS2.trans X2_3
      refine s_nil ⟨.inr hS2, ?_⟩
      refine d_only 4 rfl (by kernel_rfl) ?_
      refine s_callf (xs := [.const (.pointer none), .tmp 10, .tmp 13]) rfl rfl Tryd.func16 rfl (by kernel_rfl) rfl (prove_calls B (0, 2) [fa, fb] _ 2 2 _ hG (by have := hS2.size; omega) hn2 hwf (acs_lit [fa, fb] hb13 hnum rfl) (by decide)) ?_
      rintro _ w24 ⟨sp, rfl, hown, X2_4⟩
      replace hG := hG.keep X2_4 (by simp)
      replace hb3 := hb3.keep X2_4 (by simp)
      have zs2_4 := X2_4.size
      have hz24 := X2_4.size
      rw [hen] at *
      rw [← hfp] at hown
      obtain ⟨ap, cp, rfl, hH, hbo⟩ := own_hs hown hpo rfl
      have hapr : ∀ p, ap = some p → p.block < w24.heap.size := fun p hp => (hown.lt p.block (by rw [hbo, hp]; rfl)).2
      have hapl := fun p (hp : ap = some p) => (hown.lt p.block (by rw [hbo, hp]; rfl)).1
      replace hS2 : Chg wd2 _ [] := hS2.trans X2_4
      refine s_nil ⟨.inr hS2, ?_⟩
      refine d_only 6 rfl (by kernel_rfl) ?_
      replace hX : Chg w _ [] := (hX.trans hS2).mono (by intro k hk hlt; simp at hk ⊢ <;> first | omega | grind)
      replace hb1 := hb1.keep hS2 (by simp)
      replace hb2 := hb2.keep hS2 (by simp)
      refine s_storeAll ty33 rfl rfl rfl hb3 (pfC_len hnb) rfl (pfC_one rfl) ?_
      intro w26 z2_6 h2_6 X2_6
      replace hX : Chg w _ [] := (hX.trans X2_6).mono (by intro k hk hlt; simp at hk ⊢ <;> first | omega | grind)
      replace hb1 := hb1.keep X2_6 (by simp; omega)
      replace hb2 := hb2.keep X2_6 (by simp; omega)
      replace hG := hG.keep X2_6 (by simp; omega)
      replace hH := hH.keep X2_6 (fun p hp => by have := hapr p hp; have := hapl p hp; simp; omega)
      replace hb3 := h2_6
      have hz26 := X2_6.size
      refine s_nil ⟨.inl rfl, ?_⟩
      refine d_done (by kernel_rfl) ?_
      exact hJ9 b3 ap cp _ ⟨hG, hX, hb1, hb2, hH, fun p hp => by have := hapr p hp; omega, hb3⟩ _ ⟨rfl, rfl, rfl, trivial⟩
    · refine s_lit (xs := [.tmp 11, .tmp 12]) Tryd.underlying38 ty28 rfl rfl rfl rfl rfl (av_sz (l := [fa, fb]) hnum) (by decide) (by decide) ?_
      intro b13 w23 e2_3 z2_3 hb13 X2_3
      have s2_3_hb3 := hb3.lt
      replace hG := hG.keep X2_3 (by simp)
      replace hb3 := hb3.keep X2_3 (by simp)
      have hz23 := X2_3.size
      replace hS2 : Chg wd2 _ [] := hS2.trans X2_3
      refine s_nil ⟨.inr hS2, ?_⟩
      refine d_only 0 rfl (by kernel_rfl) ?_
      refine s_callf (xs := [.const (.int .u64 2)]) rfl rfl Tryd.func25 rfl (by kernel_rfl) rfl (u128Of_calls 2 _) ?_
      rintro _ w20 ⟨rfl, X2_0⟩
      replace hG := hG.keep X2_0 (by simp)
      replace hb3 := hb3.keep X2_0 (by simp)
      replace hb13 := hb13.keep X2_0 (by simp)
      have zs2_0 := X2_0.size
      have hz20 := X2_0.size
      replace hS2 : Chg wd2 _ [] := hS2.trans X2_0
      refine s_nil ⟨.inr hS2, ?_⟩
      refine d_only 4 rfl (by kernel_rfl) ?_
      refine s_callf (xs := [.const (.pointer none), .tmp 10, .tmp 13]) rfl rfl Tryd.func16 rfl (by kernel_rfl) rfl (prove_calls B (0, 2) [fa, fb] _ 2 2 _ hG (by have := hS2.size; omega) hn2 hwf (acs_lit [fa, fb] hb13 hnum rfl) (by decide)) ?_
      rintro _ w24 ⟨sp, rfl, hown, X2_4⟩
      replace hG := hG.keep X2_4 (by simp)
      replace hb3 := hb3.keep X2_4 (by simp)
      have zs2_4 := X2_4.size
      have hz24 := X2_4.size
      rw [hen] at *
      rw [← hfp] at hown
      obtain ⟨ap, cp, rfl, hH, hbo⟩ := own_hs hown hpo rfl
      have hapr : ∀ p, ap = some p → p.block < w24.heap.size := fun p hp => (hown.lt p.block (by rw [hbo, hp]; rfl)).2
      have hapl := fun p (hp : ap = some p) => (hown.lt p.block (by rw [hbo, hp]; rfl)).1
      replace hS2 : Chg wd2 _ [] := hS2.trans X2_4
      refine s_nil ⟨.inr hS2, ?_⟩
      refine d_only 6 rfl (by kernel_rfl) ?_
      replace hX : Chg w _ [] := (hX.trans hS2).mono (by intro k hk hlt; simp at hk ⊢ <;> first | omega | grind)
      replace hb1 := hb1.keep hS2 (by simp)
      replace hb2 := hb2.keep hS2 (by simp)
      refine s_storeAll ty33 rfl rfl rfl hb3 (pfC_len hnb) rfl (pfC_one rfl) ?_
      intro w26 z2_6 h2_6 X2_6
      replace hX : Chg w _ [] := (hX.trans X2_6).mono (by intro k hk hlt; simp at hk ⊢ <;> first | omega | grind)
      replace hb1 := hb1.keep X2_6 (by simp; omega)
      replace hb2 := hb2.keep X2_6 (by simp; omega)
      replace hG := hG.keep X2_6 (by simp; omega)
      replace hH := hH.keep X2_6 (fun p hp => by have := hapr p hp; have := hapl p hp; simp; omega)
      replace hb3 := h2_6
      have hz26 := X2_6.size
      refine s_nil ⟨.inl rfl, ?_⟩
      refine d_done (by kernel_rfl) ?_
      exact hJ9 b3 ap cp _ ⟨hG, hX, hb1, hb2, hH, fun p hp => by have := hapr p hp; omega, hb3⟩ _ ⟨rfl, rfl, rfl, trivial⟩
end Go.Proofs.YtmmijecookbajaaDoor
