/- Part St15 of the proofs on this seat. Conditions: none beyond those in the theorems. By an AI agent. -/
import Derived.Test.YtmmijecookbajaaDoorSt14
namespace Go.Proofs.YtmmijecookbajaaDoor
open Go Go.RowKit

/-! Rising, plain -/
def Sp.apos (out : List Ac) (x : Ac) : Nat := (out.takeWhile fun r => decide (Sp.nat r.id < Sp.nat x.id)).length
def Sp.ins (out : List Ac) (x : Ac) : List Ac := if (out[Sp.apos out x]?).map (·.id) = some x.id then out else out.take (Sp.apos out x) ++ x :: out.drop (Sp.apos out x)
def Sp.rising (l : List Ac) : List Ac := l.foldl Sp.ins []
theorem tw_is {p : Ac → Bool} {l : List Ac} {i : Nat} (hi : i ≤ l.length) (h1 : ∀ j, j < i → ∀ r, l[j]? = some r → p r = true) (h2 : ∀ r, l[i]? = some r → p r = false) : (l.takeWhile p).length = i := by
  induction l generalizing i with
  | nil => simp at hi ⊢; omega
  | cons x l ih =>
    cases i with
    | zero => simp [h2 x rfl]
    | succ i =>
      have := ih (i := i) (by simpa using hi) (fun j hj r hr => h1 (j + 1) (by omega) r (by simpa using hr)) (fun r hr => h2 r (by simpa using hr))
      simp [h1 0 (by omega) x rfl, this]
theorem apos_le (out : List Ac) (x : Ac) : Sp.apos out x ≤ out.length := by
  induction out with
  | nil => simp [Sp.apos]
  | cons y out ih => simp only [Sp.apos, List.takeWhile_cons] at ih ⊢; split <;> simp <;> omega
theorem ins_mem {out : List Ac} {x y : Ac} (h : y ∈ Sp.ins out x) : y = x ∨ y ∈ out := by
  unfold Sp.ins at h
  split at h
  · exact .inr h
  · simp only [List.mem_append, List.mem_cons] at h
    rcases h with h | rfl | h
    · exact .inr (List.mem_of_mem_take h)
    · exact .inl rfl
    · exact .inr (List.mem_of_mem_drop h)
theorem ins_len (out : List Ac) (x : Ac) : (Sp.ins out x).length ≤ out.length + 1 := by
  have := apos_le out x
  unfold Sp.ins
  split
  · omega
  · simp only [List.length_append, List.length_cons, List.length_take, List.length_drop]; omega
theorem rising_gen (l : List Ac) : ∀ out : List Ac, (∀ y ∈ l.foldl Sp.ins out, y ∈ l ∨ y ∈ out) ∧ (l.foldl Sp.ins out).length ≤ l.length + out.length := by
  induction l with
  | nil => intro out; exact ⟨fun y hy => .inr hy, by simp⟩
  | cons x l ih =>
    intro out
    obtain ⟨h1, h2⟩ := ih (Sp.ins out x)
    have h3 := ins_len out x
    refine ⟨fun y hy => ?_, by simp only [List.foldl_cons, List.length_cons]; omega⟩
    rcases h1 y hy with h | h
    · exact .inl (by simp [h])
    · rcases ins_mem h with rfl | h
      · exact .inl (by simp)
      · exact .inr h
theorem rising_mem {l : List Ac} {y : Ac} (h : y ∈ Sp.rising l) : y ∈ l := by
  rcases (rising_gen l []).1 y h with h | h
  · exact h
  · simp at h
theorem rising_len (l : List Ac) : (Sp.rising l).length ≤ l.length := (rising_gen l []).2
theorem rising_snoc (l : List Ac) (x : Ac) : Sp.rising (l ++ [x]) = Sp.ins (Sp.rising l) x := by simp [Sp.rising, List.foldl_append]
theorem rise_ins {out : List Ac} {x : Ac} (h : out.Pairwise fun a b => Sp.nat a.id < Sp.nat b.id) (ok : ∀ a ∈ out, NOk a.id) (hx : NOk x.id) : (Sp.ins out x).Pairwise fun a b => Sp.nat a.id < Sp.nat b.id := by
  unfold Sp.ins
  split
  · exact h
  rename_i hne
  have hlo : ∀ a ∈ out.take (Sp.apos out x), Sp.nat a.id < Sp.nat x.id := by
    intro a ha
    have : a ∈ out.takeWhile fun r => decide (Sp.nat r.id < Sp.nat x.id) := by
      have e : out.take (Sp.apos out x) = out.takeWhile fun r => decide (Sp.nat r.id < Sp.nat x.id) := by
        obtain ⟨t, ht⟩ := List.takeWhile_prefix (l := out) (fun r => decide (Sp.nat r.id < Sp.nat x.id))
        unfold Sp.apos
        conv => lhs; arg 2; rw [← ht]
        simp
      rwa [e] at ha
    have hall := List.all_takeWhile (l := out) (p := fun r => decide (Sp.nat r.id < Sp.nat x.id))
    simpa using List.all_eq_true.1 hall a this
  have hhi : ∀ a ∈ out.drop (Sp.apos out x), Sp.nat x.id < Sp.nat a.id := by
    intro a ha
    have hlt : Sp.apos out x < out.length := by
      by_cases hc : Sp.apos out x < out.length
      · exact hc
      · rw [List.drop_eq_nil_of_le (by omega)] at ha; simp at ha
    obtain ⟨z, hz⟩ : ∃ z, out[Sp.apos out x]? = some z := ⟨_, List.getElem?_eq_getElem hlt⟩
    have hzx : ¬ Sp.nat z.id < Sp.nat x.id := by
      intro hc
      have hall := tw_is (p := fun r => decide (Sp.nat r.id < Sp.nat x.id)) (l := out) (i := Sp.apos out x) (by omega)
      have e : out.takeWhile (fun r => decide (Sp.nat r.id < Sp.nat x.id)) = out.take (Sp.apos out x) := by
        obtain ⟨t, ht⟩ := List.takeWhile_prefix (l := out) (fun r => decide (Sp.nat r.id < Sp.nat x.id))
        unfold Sp.apos
        conv => rhs; arg 2; rw [← ht]
        simp
      have hd : out.dropWhile (fun r => decide (Sp.nat r.id < Sp.nat x.id)) = out.drop (Sp.apos out x) := by
        have := List.takeWhile_append_dropWhile (p := fun r => decide (Sp.nat r.id < Sp.nat x.id)) (l := out)
        rw [e] at this
        exact List.append_cancel_left (this.trans (List.take_append_drop _ _).symm)
      have hh := List.head?_dropWhile_not (fun r => decide (Sp.nat r.id < Sp.nat x.id)) out
      rw [hd, List.head?_drop, hz] at hh
      simp at hh
      omega
    have hzid : z.id ≠ x.id := fun e => hne (by rw [hz]; simp [e])
    have hzn := ok z (List.mem_of_getElem? hz)
    have hzlt : Sp.nat x.id < Sp.nat z.id := by
      rcases Nat.lt_trichotomy (Sp.nat x.id) (Sp.nat z.id) with h | h | h
      · exact h
      · exact absurd (nat_inj hzn hx h.symm) hzid
      · exact absurd h hzx
    rw [List.drop_eq_getElem_cons hlt] at ha
    have hze : out[Sp.apos out x] = z := by rw [List.getElem?_eq_getElem hlt] at hz; exact Option.some.inj hz
    rcases List.mem_cons.1 ha with rfl | ha
    · rw [hze]; exact hzlt
    · have hp : (out.drop (Sp.apos out x)).Pairwise fun a b => Sp.nat a.id < Sp.nat b.id := h.sublist (List.drop_sublist _ _)
      rw [List.drop_eq_getElem_cons hlt, hze] at hp
      have := (List.pairwise_cons.1 hp).1 a ha
      omega
  refine List.pairwise_append.2 ⟨h.sublist (List.take_sublist _ _), List.pairwise_cons.2 ⟨hhi, h.sublist (List.drop_sublist _ _)⟩, fun a ha b hb => ?_⟩
  rcases List.mem_cons.1 hb with rfl | hb
  · exact hlo a ha
  · have := hlo a ha; have := hhi b hb; omega
theorem rising_wf {l : List Ac} (h : ∀ a ∈ l, a.Num) : Wf 0 (Sp.rising l) := by
  have small : ∀ a ∈ Sp.rising l, Sp.nat a.id / 2 ^ (128 - 0) = 0 := fun a ha => by
    obtain ⟨h1, h2⟩ := (h a (rising_mem ha)).id
    refine Nat.div_eq_of_lt ?_
    show Sp.nat a.id < 340282366920938463463374607431768211456
    simp only [Sp.nat]; omega
  refine ⟨by omega, ?_, fun a ha b hb => by rw [small a ha, small b hb], fun a ha => h a (rising_mem ha)⟩
  have key : ∀ (l out : List Ac), (∀ a ∈ l, a.Num) → (∀ a ∈ out, NOk a.id) → (out.Pairwise fun a b => Sp.nat a.id < Sp.nat b.id) → ((l.foldl Sp.ins out).Pairwise fun a b => Sp.nat a.id < Sp.nat b.id) := by
    intro l
    induction l with
    | nil => intro out _ _ h; exact h
    | cons x l ih =>
      intro out hl ho hp
      refine ih _ (fun a ha => hl a (by simp [ha])) (fun a ha => ?_) (rise_ins hp ho (hl x (by simp)).id)
      rcases ins_mem ha with rfl | ha
      · exact (hl a (by simp)).id
      · exact ho a ha
  exact key l [] h (by simp) List.Pairwise.nil
/-! Rows of accounts of one's own -/
theorem ownBlock_slice (a : Option Addr) (n c : Nat) : (Value.slice a n c).ownBlock = a.map (·.block) := by cases a <;> rfl
theorem own_acs {w : World} {B n : Nat} {e : TypeId} {v : Value} {l : List Ac} (h : w.ownsRow B e 46 v n (l.flatMap Ac.C)) (ok : ∀ x ∈ l, x.Num) (hl : l.length = n) : ∃ a c, v = .slice a n c ∧ AcR w a n c l ∧ v.ownBlock = a.map (·.block) := by
  obtain ⟨a, c, e, r, o⟩ := own_reads h
  exact ⟨a, c, e, ⟨r, hl, ok⟩, o⟩
theorem own_to {w : World} {B n c k size : Nat} {e : TypeId} {a : Option Addr} {xs : List Value} (h : w.ownsRow B e size (.slice a n c) n xs) (hk : k ≤ n) : w.ownsRow B e size (.slice a k c) k (xs.take (k * size)) := by
  obtain ⟨hl, h⟩ := h
  have hm : k * size ≤ n * size := Nat.mul_le_mul_right _ hk
  refine ⟨by rw [List.length_take, hl]; omega, ?_⟩
  rcases h with ⟨e1, e2⟩ | ⟨g, cap, cur, e1, hb, hg, hnc, hcm, hcs, htk⟩
  · cases e1
    exact .inl ⟨by rw [show k = 0 by omega], by omega⟩
  · cases e1
    refine .inr ⟨g, _, cur, rfl, hb, hg, by omega, hcm, hcs, ?_⟩
    rw [← htk, List.take_take, Nat.min_eq_left hm]
theorem own_alit {w : World} {B b : Nat} {x : Ac} {t : TypeId} (h : Blk w b (flatC [av x]) t) (hx : x.Num) (hb : B ≤ b) : w.ownsRow B t 46 (.slice (some ⟨b, 0, none⟩) 1 1) 1 ([x].flatMap Ac.C) := by
  have e : flatC [av x] = [x].flatMap Ac.C := by simp [flatC, av, Value.cells]
  rw [e] at h
  have hl := acs_len (l := [x]) (by simpa using hx)
  simp only [List.length_cons, List.length_nil] at hl
  exact ⟨by rw [hl], .inr ⟨b, 1, _, rfl, hb, h, by omega, by simp [maxLen], by rw [List.size_toArray, hl], by rw [List.toList_toArray]; exact List.take_of_length_le (by rw [hl]; exact Nat.le_refl _)⟩⟩
theorem acs_one (l : List Ac) : ∀ u ∈ l.flatMap Ac.C, u.oneCell' = true := by
  intro u hu
  obtain ⟨r, _, h⟩ := List.mem_flatMap.1 hu
  exact Ac.one r u h
theorem cmp_neg {x y : Nm} : Sp.cmp x y < 0 ↔ Sp.nat x < Sp.nat y := by
  unfold Sp.cmp
  split
  · simp_all
  · split <;> simp_all
set_option maxHeartbeats 2000000 in
theorem rising_calls (_B : Nat) (l : List Ac) (a : Option Addr) (n c : Nat) (w : World) (_hG : GH _B w) (_hBw : _B ≤ w.heap.size) (hR : AcR w a n c l) (hn : n * 144 ≤ 140737488355328) :
    CallsR Tryd.prog 21 #[.slice a n c] w fun v w' => w'.ownsRow w.heap.size 28 46 v (Sp.rising l).length ((Sp.rising l).flatMap Ac.C) ∧ Chg w w' [] := by
  have hX : Chg w w [] := Chg.refl _ _
  have hlen := hR.len
  refine f_enter (l := [.slice a n c]) Tryd.func21 rfl rfl rfl rfl ?_
  intro Qf hnrm hret
  refine c_seqreg (fun K1 hK1 => ?_)
  refine s_val rfl rfl (runs_assign rfl) ?_
  refine s_nil ?_
  refine hK1 _ _ ?_
  refine c_seqreg (fun K2 hK2 => ?_)
  refine s_val rfl rfl (runs_assign rfl) ?_
  refine s_nil ?_
  refine hK2 _ _ ?_
  refine c_seq (fun K3 hK3 => ?_)
  refine c_seqreg (fun K4 hK4 => ?_)
  refine s_val rfl rfl (runs_move rfl) ?_
  refine s_val rfl rfl (runs_len_slice Tryd.underlying38 rfl) ?_
  refine s_val rfl rfl (runs_move rfl) ?_
  refine s_nil ?_
  refine hK4 _ _ ?_
  refine c_block ?_
  refine c_loop (σ := Nat × Value) (fun s => [(9, .int .i64 (s.1 : Int)), (3, s.2), (8, .int .i64 (n : Int)), (7, .slice a n c)]) (fun s W => s.1 ≤ n ∧ W.ownsRow w.heap.size 28 46 s.2 (Sp.rising (l.take s.1)).length ((Sp.rising (l.take s.1)).flatMap Ac.C) ∧ Chg w W []) (fun s => n - s.1) (0, .slice none 0 0) ⟨rfl, rfl, rfl, rfl, trivial⟩ ⟨Nat.zero_le _, World.ownsRow_nil _ _ _ _, hX⟩ ?_
  rintro ⟨i, vo⟩ wi ⟨hi, hown, hX⟩
  dsimp only at hi hown ⊢
  have hzX := hX.size
  have hrl := rising_len (l.take i)
  rw [List.length_take] at hrl
  obtain ⟨out, hout⟩ : ∃ out, out = Sp.rising (l.take i) := ⟨_, rfl⟩
  have houtn : ∀ x ∈ out, x.Num := fun x hx => by rw [hout] at hx; exact hR.ok x (List.mem_of_mem_take (rising_mem hx))
  rw [← hout] at hown hrl
  obtain ⟨no, hno⟩ : ∃ k, k = out.length := ⟨_, rfl⟩
  rw [← hno] at hown hrl
  obtain ⟨ao, co, rfl, hRo, hbo⟩ := own_acs hown houtn hno.symm
  obtain ⟨mo, hmo⟩ : ∃ mo, mo = (ao.map (·.block)).toList := ⟨_, rfl⟩
  have hmo' : ∀ k ∈ mo, w.heap.size ≤ k ∧ k < wi.heap.size := fun k hk => hown.lt k (by rw [ownBlock_slice]; rw [hmo] at hk; simpa using hk)
  refine c_seqreg (fun K5 hK5 => ?_)
  refine s_val rfl rfl (runs_lt rfl rfl) ?_
  refine s_nil ?_
  refine hK5 _ _ ?_
  refine c_seq (fun K6 hK6 => ?_)
  refine c_dec rfl (fun hin => ?_) (fun hin => ?_)
  · obtain ⟨x, hx⟩ : ∃ x, l[i]? = some x := ⟨_, List.getElem?_eq_getElem (by omega)⟩
    have hR' := hR.keep0 hX
    have hxn := hR.ok x (List.mem_of_getElem? hx)
    obtain ⟨ba, oa, rfl⟩ := hR'.rd.some_ (by omega)
    have hxat := hR'.elem hx
    have htk : l.take (i + 1) = l.take i ++ [x] := by rw [List.take_add_one, hx]; rfl
    have hri0 : Sp.rising (l.take (i + 1)) = Sp.ins out x := by rw [htk, rising_snoc, hout]
    refine c_skip ?_
    refine hK6 _ _ ?_
    refine c_seq (fun K7 hK7 => ?_)
    refine c_block ?_
    refine c_seqreg (fun K8 hK8 => ?_)
    refine s_val rfl rfl (runs_index_slice (i) Tryd.underlying38 ty28 rfl rfl (by omega) (by omega)) ?_
    refine s_val rfl rfl (runs_loadAgg ty28 rfl hxat (Ac.len hxn)) ?_
    refine s_alloc ty28 rfl rfl ?_
    intro b5 w42 e4_2 z4_2 hb5 X4_2
    have s4_2_hX := hX.size
    replace hX : Chg w _ [] := (hX.trans X4_2).mono (by intro k hk hlt; simp at hk ⊢ <;> first | omega | grind)
    replace hown := own_keep hown X4_2 (by simp)
    replace hRo := hRo.keep0 X4_2
    refine s_storeAll ty28 rfl rfl rfl hb5 (Ac.len hxn) rfl (Ac.one x) ?_
    intro w43 z4_3 h4_3 X4_3
    replace hX : Chg w _ [] := (hX.trans X4_3).mono (by intro k hk hlt; simp at hk ⊢ <;> first | omega | grind)
    replace hown := own_keep hown X4_3 (fun k hk hm => by have := hmo' k (by rw [hmo]; rw [ownBlock_slice] at hk; rw [hk]; simp); simp at hm; omega)
    replace hRo := hRo.keep X4_3 (fun p hp => by have := hmo' p.block (by rw [hmo, hp]; simp); simp; omega)
    replace hb5 := h4_3
    refine s_nil ?_
    have hl5 := hb5.lt
    have hzX4 := hX.size
    have hb5mo : b5 ∉ mo := fun hm => by have := hmo' _ hm; omega
    refine hK8 _ _ ?_
    refine c_seqreg (fun K11 hK11 => ?_)
    refine s_val rfl rfl (runs_assign rfl) ?_
    refine s_nil ?_
    refine hK11 _ _ ?_
    refine c_seq (fun K12 hK12 => ?_)
    refine c_block ?_
    refine c_loop (σ := Nat) (fun j => [(6, .int .i64 (j : Int)), (5, .pointer (some ⟨b5, 0, none⟩)), (9, .int .i64 (i : Int)), (3, .slice ao no co), (8, .int .i64 (n : Int)), (7, .slice (some ⟨ba, oa, none⟩) n c)]) (fun j W => j ≤ no ∧ (∀ k, k < j → ∀ r, out[k]? = some r → Sp.nat r.id < Sp.nat x.id) ∧ Chg w43 W []) (fun j => no - j) 0 ⟨rfl, rfl, rfl, rfl, rfl, rfl, trivial⟩ ⟨Nat.zero_le _, fun k hk => by omega, Chg.refl _ _⟩ ?_
    rintro j wj ⟨hj, hlo, XL⟩
    replace hX : Chg w wj [] := (hX.trans XL).mono (by intro k hk _; simp at hk)
    replace hown := own_keep hown XL (by simp)
    replace hRo := hRo.keep0 XL
    replace hb5 := hb5.keep XL (by simp)
    have hzXL := XL.size
    have hbj := hxn
    refine c_seq (fun K13 hK13 => ?_)
    rcases Decidable.em (j < no) with hjn | hjn
    rotate_left
    have htags : True := trivial
    rotate_left
    obtain ⟨r, hr⟩ : ∃ r, out[j]? = some r := ⟨_, List.getElem?_eq_getElem (by omega)⟩
    have hro := houtn r (List.mem_of_getElem? hr)
    obtain ⟨b1, o1, rfl⟩ := hRo.rd.some_ (by omega)
    have hat := hRo.elem hr
    rcases Decidable.em (Sp.nat r.id < Sp.nat x.id) with hb | hb
    rotate_left
    rotate_left
    · refine c_seqdraw [] ([]) (by kernel_rfl) ?_
      intro K14 hK14 wd6 Xd6 hS6
      replace hX : Chg w _ [] := (hX.trans Xd6).mono (by intro k hk hlt; simp at hk ⊢ <;> first | omega | grind)
      replace hown := own_keep hown Xd6 (by simp)
      replace hRo := hRo.keep0 Xd6
      replace hb5 := hb5.keep Xd6 (by simp)
      replace XL : Chg w43 _ [] := (XL.trans Xd6).mono (by intro k hk hlt; simp at hk ⊢ <;> first | omega | grind)
      have zd6 := Xd6.size
      refine d_take 0 13 rfl (by kernel_rfl) rfl hS6 (fun wS hS => runs_move rfl) ?_
      refine d_take 1 14 rfl (by kernel_rfl) rfl hS6 (fun wS hS => runs_move rfl) ?_
      refine d_take 2 15 rfl (by kernel_rfl) rfl hS6 (fun wS hS => runs_len_slice Tryd.underlying38 rfl) ?_
      refine d_take 3 16 rfl (by kernel_rfl) rfl hS6 (fun wS hS => runs_df (runs_lt rfl rfl) (by omega)) ?_
      refine d_take 4 17 rfl (by kernel_rfl) rfl hS6 (fun wS hS => runs_move rfl) ?_
      refine d_takeskip 5 18 rfl (by kernel_rfl) rfl hS6 ?_
      refine d_takeskip 6 19 rfl (by kernel_rfl) rfl hS6 ?_
      refine d_takeskip 7 20 rfl (by kernel_rfl) rfl hS6 ?_
      refine d_takeskip 8 21 rfl (by kernel_rfl) rfl hS6 ?_
      refine d_takeskip 9 22 rfl (by kernel_rfl) rfl hS6 ?_
      refine d_takeskip 10 23 rfl (by kernel_rfl) rfl hS6 ?_
      refine d_takeskip 11 24 rfl (by kernel_rfl) rfl hS6 ?_
      refine d_takeskip 12 25 rfl (by kernel_rfl) rfl hS6 ?_
      refine d_takeskip 13 26 rfl (by kernel_rfl) rfl hS6 ?_
      refine d_take 14 27 rfl (by kernel_rfl) rfl hS6 (fun wS hS => runs_pickf rfl rfl) ?_
      refine d_done (by kernel_rfl) ?_
      replace hX : Chg w _ [] := (hX.trans hS6).mono (by intro k hk hlt; simp at hk ⊢ <;> first | omega | grind)
      replace hown := own_keep hown hS6 (by simp)
      replace hRo := hRo.keep0 hS6
      replace hb5 := hb5.keep hS6 (by simp)
      replace XL : Chg w43 _ [] := (XL.trans hS6).mono (by intro k hk hlt; simp at hk ⊢ <;> first | omega | grind)
      have hpos : Sp.apos out x = j := tw_is (by omega) (fun k hk r hr => by simpa using hlo k hk r hr) (fun r hr => by have := (List.getElem?_eq_some_iff.1 hr).1; omega)
      refine hK14 _ _ ?_
      refine c_false rfl ?_
      refine c_exit ?_
      refine hK12 _ _ ?_
      skip
      · refine c_seqdraw [] ([]) (by kernel_rfl) ?_
        intro K15 hK15 wd8 Xd8 hS8
        replace hX : Chg w _ [] := (hX.trans Xd8).mono (by intro k hk hlt; simp at hk ⊢ <;> first | omega | grind)
        replace hown := own_keep hown Xd8 (by simp)
        replace hRo := hRo.keep0 Xd8
        replace hb5 := hb5.keep Xd8 (by simp)
        replace XL : Chg w43 _ [] := (XL.trans Xd8).mono (by intro k hk hlt; simp at hk ⊢ <;> first | omega | grind)
        have zd8 := Xd8.size
        refine d_take 0 30 rfl (by kernel_rfl) rfl hS8 (fun wS hS => runs_move rfl) ?_
        refine d_take 1 31 rfl (by kernel_rfl) rfl hS8 (fun wS hS => runs_move rfl) ?_
        refine d_take 2 32 rfl (by kernel_rfl) rfl hS8 (fun wS hS => runs_len_slice Tryd.underlying38 rfl) ?_
        refine d_take 3 33 rfl (by kernel_rfl) rfl hS8 (fun wS hS => runs_dt (runs_eqd rfl rfl) (by omega)) ?_
        refine d_take 4 34 rfl (by kernel_rfl) rfl hS8 (fun wS hS => runs_move rfl) ?_
        refine d_takeskip 5 35 rfl (by kernel_rfl) rfl hS8 ?_
        refine d_takeskip 6 36 rfl (by kernel_rfl) rfl hS8 ?_
        refine d_takeskip 7 37 rfl (by kernel_rfl) rfl hS8 ?_
        refine d_takeskip 8 38 rfl (by kernel_rfl) rfl hS8 ?_
        refine d_takeskip 9 39 rfl (by kernel_rfl) rfl hS8 ?_
        refine d_takeskip 10 40 rfl (by kernel_rfl) rfl hS8 ?_
        refine d_takeskip 11 41 rfl (by kernel_rfl) rfl hS8 ?_
        refine d_takeskip 12 42 rfl (by kernel_rfl) rfl hS8 ?_
        refine d_take 13 43 rfl (by kernel_rfl) rfl hS8 (fun wS hS => runs_pickt rfl rfl) ?_
        refine d_done (by kernel_rfl) ?_
        replace hX : Chg w _ [] := (hX.trans hS8).mono (by intro k hk hlt; simp at hk ⊢ <;> first | omega | grind)
        replace hown := own_keep hown hS8 (by simp)
        replace hRo := hRo.keep0 hS8
        replace hb5 := hb5.keep hS8 (by simp)
        replace XL : Chg w43 _ [] := (XL.trans hS8).mono (by intro k hk hlt; simp at hk ⊢ <;> first | omega | grind)
        have hri : Sp.rising (l.take (i + 1)) = out.take j ++ x :: out.drop j := by
          rw [hri0, Sp.ins, hpos, if_neg (by rw [List.getElem?_eq_none (by omega)]; simp)]
        refine hK15 _ _ ?_
        refine c_true rfl ?_
        refine c_drawX [] (mo) (by kernel_rfl) ?_
        intro wd9 Xd9 hS9
        replace hX : Chg w _ [] := (hX.trans Xd9).mono (by intro k hk hlt; simp at hk ⊢ <;> first | omega | grind)
        replace hown := own_keep hown Xd9 (by simp)
        replace hRo := hRo.keep0 Xd9
        replace hb5 := hb5.keep Xd9 (by simp)
        replace XL : Chg w43 _ [] := (XL.trans Xd9).mono (by intro k hk hlt; simp at hk ⊢ <;> first | omega | grind)
        have zd9 := Xd9.size
        have hcn9 := hRo.rd.le
        refine d_take 0 44 rfl (by kernel_rfl) rfl hS9 (fun wS hS => runs_move rfl) ?_
        refine d_take 1 45 rfl (by kernel_rfl) rfl hS9 (fun wS hS => runs_move rfl) ?_
        refine d_take 2 46 rfl (by kernel_rfl) rfl hS9 (fun wS hS => runs_slice_to (j) Tryd.underlying38 ty28 rfl rfl (by omega) (by omega)) ?_
        refine d_take 3 47 rfl (by kernel_rfl) rfl hS9 (fun wS hS => runs_loadAgg ty28 rfl ((hb5.keep hS hb5mo).at) (Ac.len hxn)) ?_
        refine d_take 5 49 rfl (by kernel_rfl) rfl hS9 (fun wS hS => runs_move rfl) ?_
        refine d_take 6 50 rfl (by kernel_rfl) rfl hS9 (fun wS hS => runs_move rfl) ?_
        refine d_take 7 51 rfl (by kernel_rfl) rfl hS9 (fun wS hS => runs_slice_from (j) Tryd.underlying38 ty28 rfl rfl (by omega) (by omega)) ?_
        refine d_only 4 rfl (by kernel_rfl) ?_
        refine s_lit (xs := [.tmp 47]) Tryd.underlying38 ty28 rfl rfl rfl rfl rfl (by simpa [av, Value.cells] using Ac.len hxn) (by decide) (by decide) ?_
        intro b48 w94 e9_4 z9_4 hb48 X9_4
        have s9_4_hX := hX.size
        replace hX : Chg w _ [] := (hX.trans X9_4).mono (by intro k hk hlt; simp at hk ⊢ <;> first | omega | grind)
        replace hown := own_keep hown X9_4 (by simp)
        replace hRo := hRo.keep0 X9_4
        have hz94 := X9_4.size
        have hl48 := hb48.lt
        replace hS9 : Chg wd9 _ mo := (hS9.trans X9_4).mono (by intro k hk hlt; simpa using hk)
        refine s_nil ⟨.inr hS9, ?_⟩
        refine d_only 8 rfl (by kernel_rfl) ?_
        refine s_append Tryd.underlying38 ty28 rfl (by decide) rfl rfl rfl (own_alit (B := w.heap.size) hb48 hxn (by omega)) rfl (hRo.from_ j (by omega)).rd (acs_one _) (by simp only [maxLen]; omega) (by omega) (by omega) ?_
        intro v98 w98 H9_8 X9_8 F9_8
        replace hX : Chg w _ [] := (hX.trans X9_8).mono (by intro k hk hlt; simp [Value.ownBlock] at hk; omega)
        replace hown := own_keep hown X9_8 (fun k hk hm => by have := hmo' k (by rw [hmo]; rw [ownBlock_slice] at hk; rw [hk]; simp); simp [Value.ownBlock] at hm; omega)
        replace hRo := hRo.keep X9_8 (fun p hp => by have := hmo' p.block (by rw [hmo]; rw [hp]; simp); simp [Value.ownBlock]; omega)
        obtain ⟨a52, c52, rfl, hR52, ho52⟩ := own_reads H9_8
        have hcut := own_to hown (k := j) (by omega)
        rw [acs_take houtn] at hcut
        have hz98 := X9_8.size
        replace hS9 : Chg wd9 _ mo := (hS9.trans X9_8).mono (by intro k hk hlt; simp [Value.ownBlock] at hk; rcases hk with hk | rfl; exact hk; omega)
        refine s_nil ⟨.inr hS9, ?_⟩
        refine d_only 9 rfl (by kernel_rfl) ?_
        refine s_append Tryd.underlying38 ty28 rfl (by decide) rfl rfl rfl hcut rfl hR52 (by simpa [List.flatMap_append] using acs_one ([x] ++ out.drop j)) (by simp only [maxLen]; omega) (by omega) (by omega) ?_
        intro v53 w99 H9_9 X9_9 F9_9
        replace hX : Chg w _ [] := (hX.trans X9_9).mono (by intro k hk hlt; rw [ownBlock_slice] at hk; have := hmo' k (by rw [hmo]; simpa using hk); omega)
        have hcut := H9_9
        replace hS9 : Chg wd9 _ mo := (hS9.trans X9_9).mono (by intro k hk hlt; simp only [List.mem_append] at hk; rcases hk with hk | hk; exact hk; rw [hmo]; rw [ownBlock_slice] at hk; exact hk)
        refine s_nil ⟨.inr hS9, ?_⟩
        refine d_take 10 3 rfl (by kernel_rfl) rfl hS9 (fun wS hS => runs_assign rfl) ?_
        refine d_done (by kernel_rfl) ?_
        have hnew : w99.ownsRow w.heap.size 28 46 v53 (out.take j ++ x :: out.drop j).length ((out.take j ++ x :: out.drop j).flatMap Ac.C) := by
          have e : (out.take j ++ x :: out.drop j).length = j + (1 + (no - j)) := by simp only [List.length_append, List.length_cons, List.length_take, List.length_drop]; omega
          rw [e]; simpa [List.flatMap_append] using hcut
        refine hK7 _ _ ?_
        refine c_reg ?_
        refine s_val rfl rfl (runs_add64 rfl rfl (by omega)) ?_
        refine s_val rfl rfl (runs_move rfl) ?_
        refine s_nil ?_
        dsimp only [Post.setN]
        first
          | exact ⟨(i + 1, v53), ⟨rfl, rfl, rfl, rfl, trivial⟩, ⟨by dsimp only; omega, by rw [hri]; exact hnew, hX⟩, by dsimp only; omega⟩
          | exact ⟨(i + 1, .slice _ no co), ⟨rfl, rfl, rfl, rfl, trivial⟩, ⟨by dsimp only; omega, by rw [hri, ← hno]; exact hown, hX⟩, by dsimp only; omega⟩
    · refine c_seqdraw [] ([]) (by kernel_rfl) ?_
      intro K14 hK14 wd6 Xd6 hS6
      replace hX : Chg w _ [] := (hX.trans Xd6).mono (by intro k hk hlt; simp at hk ⊢ <;> first | omega | grind)
      replace hown := own_keep hown Xd6 (by simp)
      replace hRo := hRo.keep0 Xd6
      replace hb5 := hb5.keep Xd6 (by simp)
      replace XL : Chg w43 _ [] := (XL.trans Xd6).mono (by intro k hk hlt; simp at hk ⊢ <;> first | omega | grind)
      have zd6 := Xd6.size
      refine d_take 0 13 rfl (by kernel_rfl) rfl hS6 (fun wS hS => runs_move rfl) ?_
      refine d_take 1 14 rfl (by kernel_rfl) rfl hS6 (fun wS hS => runs_move rfl) ?_
      refine d_take 2 15 rfl (by kernel_rfl) rfl hS6 (fun wS hS => runs_len_slice Tryd.underlying38 rfl) ?_
      refine d_take 3 16 rfl (by kernel_rfl) rfl hS6 (fun wS hS => runs_dt (runs_lt rfl rfl) (by omega)) ?_
      refine d_take 4 17 rfl (by kernel_rfl) rfl hS6 (fun wS hS => runs_move rfl) ?_
      refine d_take 5 18 rfl (by kernel_rfl) rfl hS6 (fun wS hS => runs_move rfl) ?_
      refine d_take 6 19 rfl (by kernel_rfl) rfl hS6 (fun wS hS => runs_move rfl) ?_
      refine d_take 7 20 rfl (by kernel_rfl) rfl hS6 (fun wS hS => runs_index_slice (j) Tryd.underlying38 ty28 rfl rfl (by omega) (by omega)) ?_
      refine d_take 8 21 rfl (by kernel_rfl) rfl hS6 (fun wS hS => runs_fieldAddr Tryd.underlying28 rfl ty24 (by decide) rfl) ?_
      refine d_take 9 22 rfl (by kernel_rfl) rfl hS6 (fun wS hS => runs_loadAgg ty24 rfl (((hRo.keep hS (by simp)).elem hr).sub 0 2) (by rfl)) ?_
      refine d_take 10 23 rfl (by kernel_rfl) rfl hS6 (fun wS hS => runs_fieldAddr Tryd.underlying28 rfl ty24 (by decide) rfl) ?_
      refine d_take 11 24 rfl (by kernel_rfl) rfl hS6 (fun wS hS => runs_loadAgg ty24 rfl (((hb5.keep hS (by simp)).at).sub 0 2) (by rfl)) ?_
      refine d_only 12 rfl (by kernel_rfl) ?_
      refine s_callf (xs := [.tmp 22, .tmp 24]) rfl rfl Tryd.func28 rfl (by kernel_rfl) rfl (cmp_calls r.id x.id _ hro.id hxn.id) ?_
      rintro _ w612 ⟨rfl, X6_12⟩
      have zs6_12 := X6_12.size
      replace hS6 : Chg wd6 _ [] := hS6.trans X6_12
      refine s_nil ⟨.inr hS6, ?_⟩
      refine d_take 13 26 rfl (by kernel_rfl) rfl hS6 (fun wS hS => runs_dt (runs_lt rfl rfl) (cmp_neg.2 hb)) ?_
      refine d_take 14 27 rfl (by kernel_rfl) rfl hS6 (fun wS hS => runs_pickt rfl rfl) ?_
      refine d_done (by kernel_rfl) ?_
      replace hX : Chg w _ [] := (hX.trans hS6).mono (by intro k hk hlt; simp at hk ⊢ <;> first | omega | grind)
      replace hown := own_keep hown hS6 (by simp)
      replace hRo := hRo.keep0 hS6
      replace hb5 := hb5.keep hS6 (by simp)
      replace XL : Chg w43 _ [] := (XL.trans hS6).mono (by intro k hk hlt; simp at hk ⊢ <;> first | omega | grind)
      refine hK14 _ _ ?_
      refine c_true rfl ?_
      refine c_skip ?_
      refine hK13 _ _ ?_
      refine c_block ?_
      refine c_reg ?_
      refine s_val rfl rfl (runs_move rfl) ?_
      refine s_val rfl rfl (runs_add64 rfl rfl (by omega)) ?_
      refine s_val rfl rfl (runs_assign rfl) ?_
      refine s_nil ?_
      dsimp only [Post.setN]
      exact ⟨j + 1, ⟨rfl, rfl, rfl, rfl, rfl, rfl, trivial⟩, ⟨by omega, fun k hk q hq => by
        by_cases e : k = j
        · subst e; rw [hr] at hq; cases hq; exact hb
        · exact hlo k (by omega) q hq, XL⟩, by omega⟩
    · refine c_seqdraw [] ([]) (by kernel_rfl) ?_
      intro K14 hK14 wd6 Xd6 hS6
      replace hX : Chg w _ [] := (hX.trans Xd6).mono (by intro k hk hlt; simp at hk ⊢ <;> first | omega | grind)
      replace hown := own_keep hown Xd6 (by simp)
      replace hRo := hRo.keep0 Xd6
      replace hb5 := hb5.keep Xd6 (by simp)
      replace XL : Chg w43 _ [] := (XL.trans Xd6).mono (by intro k hk hlt; simp at hk ⊢ <;> first | omega | grind)
      have zd6 := Xd6.size
      refine d_take 0 13 rfl (by kernel_rfl) rfl hS6 (fun wS hS => runs_move rfl) ?_
      refine d_take 1 14 rfl (by kernel_rfl) rfl hS6 (fun wS hS => runs_move rfl) ?_
      refine d_take 2 15 rfl (by kernel_rfl) rfl hS6 (fun wS hS => runs_len_slice Tryd.underlying38 rfl) ?_
      refine d_take 3 16 rfl (by kernel_rfl) rfl hS6 (fun wS hS => runs_dt (runs_lt rfl rfl) (by omega)) ?_
      refine d_take 4 17 rfl (by kernel_rfl) rfl hS6 (fun wS hS => runs_move rfl) ?_
      refine d_take 5 18 rfl (by kernel_rfl) rfl hS6 (fun wS hS => runs_move rfl) ?_
      refine d_take 6 19 rfl (by kernel_rfl) rfl hS6 (fun wS hS => runs_move rfl) ?_
      refine d_take 7 20 rfl (by kernel_rfl) rfl hS6 (fun wS hS => runs_index_slice (j) Tryd.underlying38 ty28 rfl rfl (by omega) (by omega)) ?_
      refine d_take 8 21 rfl (by kernel_rfl) rfl hS6 (fun wS hS => runs_fieldAddr Tryd.underlying28 rfl ty24 (by decide) rfl) ?_
      refine d_take 9 22 rfl (by kernel_rfl) rfl hS6 (fun wS hS => runs_loadAgg ty24 rfl (((hRo.keep hS (by simp)).elem hr).sub 0 2) (by rfl)) ?_
      refine d_take 10 23 rfl (by kernel_rfl) rfl hS6 (fun wS hS => runs_fieldAddr Tryd.underlying28 rfl ty24 (by decide) rfl) ?_
      refine d_take 11 24 rfl (by kernel_rfl) rfl hS6 (fun wS hS => runs_loadAgg ty24 rfl (((hb5.keep hS (by simp)).at).sub 0 2) (by rfl)) ?_
      refine d_only 12 rfl (by kernel_rfl) ?_
      refine s_callf (xs := [.tmp 22, .tmp 24]) rfl rfl Tryd.func28 rfl (by kernel_rfl) rfl (cmp_calls r.id x.id _ hro.id hxn.id) ?_
      rintro _ w612 ⟨rfl, X6_12⟩
      have zs6_12 := X6_12.size
      replace hS6 : Chg wd6 _ [] := hS6.trans X6_12
      refine s_nil ⟨.inr hS6, ?_⟩
      refine d_take 13 26 rfl (by kernel_rfl) rfl hS6 (fun wS hS => runs_df (runs_lt rfl rfl) (fun h => hb (cmp_neg.1 h))) ?_
      refine d_take 14 27 rfl (by kernel_rfl) rfl hS6 (fun wS hS => runs_pickt rfl rfl) ?_
      refine d_done (by kernel_rfl) ?_
      replace hX : Chg w _ [] := (hX.trans hS6).mono (by intro k hk hlt; simp at hk ⊢ <;> first | omega | grind)
      replace hown := own_keep hown hS6 (by simp)
      replace hRo := hRo.keep0 hS6
      replace hb5 := hb5.keep hS6 (by simp)
      replace XL : Chg w43 _ [] := (XL.trans hS6).mono (by intro k hk hlt; simp at hk ⊢ <;> first | omega | grind)
      have hpos : Sp.apos out x = j := tw_is (by omega) (fun k hk r hr => by simpa using hlo k hk r hr) (fun q hq => by rw [hr] at hq; cases hq; simpa using hb)
      refine hK14 _ _ ?_
      refine c_false rfl ?_
      refine c_exit ?_
      refine hK12 _ _ ?_
      rcases Decidable.em (r.id = x.id) with hb2 | hb2
      · refine c_seqdraw [] ([]) (by kernel_rfl) ?_
        intro K21 hK21 wd8 Xd8 hS8
        replace hX : Chg w _ [] := (hX.trans Xd8).mono (by intro k hk hlt; simp at hk ⊢ <;> first | omega | grind)
        replace hown := own_keep hown Xd8 (by simp)
        replace hRo := hRo.keep0 Xd8
        replace hb5 := hb5.keep Xd8 (by simp)
        replace XL : Chg w43 _ [] := (XL.trans Xd8).mono (by intro k hk hlt; simp at hk ⊢ <;> first | omega | grind)
        have zd8 := Xd8.size
        refine d_take 0 30 rfl (by kernel_rfl) rfl hS8 (fun wS hS => runs_move rfl) ?_
        refine d_take 1 31 rfl (by kernel_rfl) rfl hS8 (fun wS hS => runs_move rfl) ?_
        refine d_take 2 32 rfl (by kernel_rfl) rfl hS8 (fun wS hS => runs_len_slice Tryd.underlying38 rfl) ?_
        refine d_take 3 33 rfl (by kernel_rfl) rfl hS8 (fun wS hS => runs_df (runs_eqd rfl rfl) (by omega)) ?_
        refine d_take 4 34 rfl (by kernel_rfl) rfl hS8 (fun wS hS => runs_move rfl) ?_
        refine d_take 5 35 rfl (by kernel_rfl) rfl hS8 (fun wS hS => runs_move rfl) ?_
        refine d_take 6 36 rfl (by kernel_rfl) rfl hS8 (fun wS hS => runs_move rfl) ?_
        refine d_take 7 37 rfl (by kernel_rfl) rfl hS8 (fun wS hS => runs_index_slice (j) Tryd.underlying38 ty28 rfl rfl (by omega) (by omega)) ?_
        refine d_take 8 38 rfl (by kernel_rfl) rfl hS8 (fun wS hS => runs_fieldAddr Tryd.underlying28 rfl ty24 (by decide) rfl) ?_
        refine d_take 9 39 rfl (by kernel_rfl) rfl hS8 (fun wS hS => runs_loadAgg ty24 rfl (((hRo.keep hS (by simp)).elem hr).sub 0 2) (by rfl)) ?_
        refine d_take 10 40 rfl (by kernel_rfl) rfl hS8 (fun wS hS => runs_fieldAddr Tryd.underlying28 rfl ty24 (by decide) rfl) ?_
        refine d_take 11 41 rfl (by kernel_rfl) rfl hS8 (fun wS hS => runs_loadAgg ty24 rfl (((hb5.keep hS (by simp)).at).sub 0 2) (by rfl)) ?_
        refine d_take 12 42 rfl (by kernel_rfl) rfl hS8 (fun wS hS => runs_df (runs_nm_ne rfl rfl) (fun h => h hb2)) ?_
        refine d_take 13 43 rfl (by kernel_rfl) rfl hS8 (fun wS hS => runs_pickf rfl rfl) ?_
        refine d_done (by kernel_rfl) ?_
        replace hX : Chg w _ [] := (hX.trans hS8).mono (by intro k hk hlt; simp at hk ⊢ <;> first | omega | grind)
        replace hown := own_keep hown hS8 (by simp)
        replace hRo := hRo.keep0 hS8
        replace hb5 := hb5.keep hS8 (by simp)
        replace XL : Chg w43 _ [] := (XL.trans hS8).mono (by intro k hk hlt; simp at hk ⊢ <;> first | omega | grind)
        have hri : Sp.rising (l.take (i + 1)) = out := by
          rw [hri0, Sp.ins, hpos, if_pos (by rw [hr]; simp [hb2])]
        refine hK21 _ _ ?_
        refine c_false rfl ?_
        refine c_skip ?_
        refine hK7 _ _ ?_
        refine c_reg ?_
        refine s_val rfl rfl (runs_add64 rfl rfl (by omega)) ?_
        refine s_val rfl rfl (runs_move rfl) ?_
        refine s_nil ?_
        dsimp only [Post.setN]
        first
          | exact ⟨(i + 1, v53), ⟨rfl, rfl, rfl, rfl, trivial⟩, ⟨by dsimp only; omega, by rw [hri]; exact hnew, hX⟩, by dsimp only; omega⟩
          | exact ⟨(i + 1, .slice _ no co), ⟨rfl, rfl, rfl, rfl, trivial⟩, ⟨by dsimp only; omega, by rw [hri, ← hno]; exact hown, hX⟩, by dsimp only; omega⟩
      · refine c_seqdraw [] ([]) (by kernel_rfl) ?_
        intro K21 hK21 wd8 Xd8 hS8
        replace hX : Chg w _ [] := (hX.trans Xd8).mono (by intro k hk hlt; simp at hk ⊢ <;> first | omega | grind)
        replace hown := own_keep hown Xd8 (by simp)
        replace hRo := hRo.keep0 Xd8
        replace hb5 := hb5.keep Xd8 (by simp)
        replace XL : Chg w43 _ [] := (XL.trans Xd8).mono (by intro k hk hlt; simp at hk ⊢ <;> first | omega | grind)
        have zd8 := Xd8.size
        refine d_take 0 30 rfl (by kernel_rfl) rfl hS8 (fun wS hS => runs_move rfl) ?_
        refine d_take 1 31 rfl (by kernel_rfl) rfl hS8 (fun wS hS => runs_move rfl) ?_
        refine d_take 2 32 rfl (by kernel_rfl) rfl hS8 (fun wS hS => runs_len_slice Tryd.underlying38 rfl) ?_
        refine d_take 3 33 rfl (by kernel_rfl) rfl hS8 (fun wS hS => runs_df (runs_eqd rfl rfl) (by omega)) ?_
        refine d_take 4 34 rfl (by kernel_rfl) rfl hS8 (fun wS hS => runs_move rfl) ?_
        refine d_take 5 35 rfl (by kernel_rfl) rfl hS8 (fun wS hS => runs_move rfl) ?_
        refine d_take 6 36 rfl (by kernel_rfl) rfl hS8 (fun wS hS => runs_move rfl) ?_
        refine d_take 7 37 rfl (by kernel_rfl) rfl hS8 (fun wS hS => runs_index_slice (j) Tryd.underlying38 ty28 rfl rfl (by omega) (by omega)) ?_
        refine d_take 8 38 rfl (by kernel_rfl) rfl hS8 (fun wS hS => runs_fieldAddr Tryd.underlying28 rfl ty24 (by decide) rfl) ?_
        refine d_take 9 39 rfl (by kernel_rfl) rfl hS8 (fun wS hS => runs_loadAgg ty24 rfl (((hRo.keep hS (by simp)).elem hr).sub 0 2) (by rfl)) ?_
        refine d_take 10 40 rfl (by kernel_rfl) rfl hS8 (fun wS hS => runs_fieldAddr Tryd.underlying28 rfl ty24 (by decide) rfl) ?_
        refine d_take 11 41 rfl (by kernel_rfl) rfl hS8 (fun wS hS => runs_loadAgg ty24 rfl (((hb5.keep hS (by simp)).at).sub 0 2) (by rfl)) ?_
        refine d_take 12 42 rfl (by kernel_rfl) rfl hS8 (fun wS hS => runs_dt (runs_nm_ne rfl rfl) hb2) ?_
        refine d_take 13 43 rfl (by kernel_rfl) rfl hS8 (fun wS hS => runs_pickf rfl rfl) ?_
        refine d_done (by kernel_rfl) ?_
        replace hX : Chg w _ [] := (hX.trans hS8).mono (by intro k hk hlt; simp at hk ⊢ <;> first | omega | grind)
        replace hown := own_keep hown hS8 (by simp)
        replace hRo := hRo.keep0 hS8
        replace hb5 := hb5.keep hS8 (by simp)
        replace XL : Chg w43 _ [] := (XL.trans hS8).mono (by intro k hk hlt; simp at hk ⊢ <;> first | omega | grind)
        have hri : Sp.rising (l.take (i + 1)) = out.take j ++ x :: out.drop j := by
          rw [hri0, Sp.ins, hpos, if_neg (by rw [hr]; simp [hb2])]
        refine hK21 _ _ ?_
        refine c_true rfl ?_
        refine c_drawX [] (mo) (by kernel_rfl) ?_
        intro wd9 Xd9 hS9
        replace hX : Chg w _ [] := (hX.trans Xd9).mono (by intro k hk hlt; simp at hk ⊢ <;> first | omega | grind)
        replace hown := own_keep hown Xd9 (by simp)
        replace hRo := hRo.keep0 Xd9
        replace hb5 := hb5.keep Xd9 (by simp)
        replace XL : Chg w43 _ [] := (XL.trans Xd9).mono (by intro k hk hlt; simp at hk ⊢ <;> first | omega | grind)
        have zd9 := Xd9.size
        have hcn9 := hRo.rd.le
        refine d_take 0 44 rfl (by kernel_rfl) rfl hS9 (fun wS hS => runs_move rfl) ?_
        refine d_take 1 45 rfl (by kernel_rfl) rfl hS9 (fun wS hS => runs_move rfl) ?_
        refine d_take 2 46 rfl (by kernel_rfl) rfl hS9 (fun wS hS => runs_slice_to (j) Tryd.underlying38 ty28 rfl rfl (by omega) (by omega)) ?_
        refine d_take 3 47 rfl (by kernel_rfl) rfl hS9 (fun wS hS => runs_loadAgg ty28 rfl ((hb5.keep hS hb5mo).at) (Ac.len hxn)) ?_
        refine d_take 5 49 rfl (by kernel_rfl) rfl hS9 (fun wS hS => runs_move rfl) ?_
        refine d_take 6 50 rfl (by kernel_rfl) rfl hS9 (fun wS hS => runs_move rfl) ?_
        refine d_take 7 51 rfl (by kernel_rfl) rfl hS9 (fun wS hS => runs_slice_from (j) Tryd.underlying38 ty28 rfl rfl (by omega) (by omega)) ?_
        refine d_only 4 rfl (by kernel_rfl) ?_
        refine s_lit (xs := [.tmp 47]) Tryd.underlying38 ty28 rfl rfl rfl rfl rfl (by simpa [av, Value.cells] using Ac.len hxn) (by decide) (by decide) ?_
        intro b48 w94 e9_4 z9_4 hb48 X9_4
        have s9_4_hX := hX.size
        replace hX : Chg w _ [] := (hX.trans X9_4).mono (by intro k hk hlt; simp at hk ⊢ <;> first | omega | grind)
        replace hown := own_keep hown X9_4 (by simp)
        replace hRo := hRo.keep0 X9_4
        have hz94 := X9_4.size
        have hl48 := hb48.lt
        replace hS9 : Chg wd9 _ mo := (hS9.trans X9_4).mono (by intro k hk hlt; simpa using hk)
        refine s_nil ⟨.inr hS9, ?_⟩
        refine d_only 8 rfl (by kernel_rfl) ?_
        refine s_append Tryd.underlying38 ty28 rfl (by decide) rfl rfl rfl (own_alit (B := w.heap.size) hb48 hxn (by omega)) rfl (hRo.from_ j (by omega)).rd (acs_one _) (by simp only [maxLen]; omega) (by omega) (by omega) ?_
        intro v98 w98 H9_8 X9_8 F9_8
        replace hX : Chg w _ [] := (hX.trans X9_8).mono (by intro k hk hlt; simp [Value.ownBlock] at hk; omega)
        replace hown := own_keep hown X9_8 (fun k hk hm => by have := hmo' k (by rw [hmo]; rw [ownBlock_slice] at hk; rw [hk]; simp); simp [Value.ownBlock] at hm; omega)
        replace hRo := hRo.keep X9_8 (fun p hp => by have := hmo' p.block (by rw [hmo]; rw [hp]; simp); simp [Value.ownBlock]; omega)
        obtain ⟨a52, c52, rfl, hR52, ho52⟩ := own_reads H9_8
        have hcut := own_to hown (k := j) (by omega)
        rw [acs_take houtn] at hcut
        have hz98 := X9_8.size
        replace hS9 : Chg wd9 _ mo := (hS9.trans X9_8).mono (by intro k hk hlt; simp [Value.ownBlock] at hk; rcases hk with hk | rfl; exact hk; omega)
        refine s_nil ⟨.inr hS9, ?_⟩
        refine d_only 9 rfl (by kernel_rfl) ?_
        refine s_append Tryd.underlying38 ty28 rfl (by decide) rfl rfl rfl hcut rfl hR52 (by simpa [List.flatMap_append] using acs_one ([x] ++ out.drop j)) (by simp only [maxLen]; omega) (by omega) (by omega) ?_
        intro v53 w99 H9_9 X9_9 F9_9
        replace hX : Chg w _ [] := (hX.trans X9_9).mono (by intro k hk hlt; rw [ownBlock_slice] at hk; have := hmo' k (by rw [hmo]; simpa using hk); omega)
        have hcut := H9_9
        replace hS9 : Chg wd9 _ mo := (hS9.trans X9_9).mono (by intro k hk hlt; simp only [List.mem_append] at hk; rcases hk with hk | hk; exact hk; rw [hmo]; rw [ownBlock_slice] at hk; exact hk)
        refine s_nil ⟨.inr hS9, ?_⟩
        refine d_take 10 3 rfl (by kernel_rfl) rfl hS9 (fun wS hS => runs_assign rfl) ?_
        refine d_done (by kernel_rfl) ?_
        have hnew : w99.ownsRow w.heap.size 28 46 v53 (out.take j ++ x :: out.drop j).length ((out.take j ++ x :: out.drop j).flatMap Ac.C) := by
          have e : (out.take j ++ x :: out.drop j).length = j + (1 + (no - j)) := by simp only [List.length_append, List.length_cons, List.length_take, List.length_drop]; omega
          rw [e]; simpa [List.flatMap_append] using hcut
        refine hK7 _ _ ?_
        refine c_reg ?_
        refine s_val rfl rfl (runs_add64 rfl rfl (by omega)) ?_
        refine s_val rfl rfl (runs_move rfl) ?_
        refine s_nil ?_
        dsimp only [Post.setN]
        first
          | exact ⟨(i + 1, v53), ⟨rfl, rfl, rfl, rfl, trivial⟩, ⟨by dsimp only; omega, by rw [hri]; exact hnew, hX⟩, by dsimp only; omega⟩
          | exact ⟨(i + 1, .slice _ no co), ⟨rfl, rfl, rfl, rfl, trivial⟩, ⟨by dsimp only; omega, by rw [hri, ← hno]; exact hown, hX⟩, by dsimp only; omega⟩
  · refine c_exit ?_
    refine hK3 _ _ ?_
    refine c_seqreg (fun K25 hK25 => ?_)
    refine s_val rfl rfl (runs_move rfl) ?_
    refine s_val rfl rfl (runs_assign rfl) ?_
    refine s_nil ?_
    refine hK25 _ _ ?_
    refine c_ret ?_
    refine hret _ _ ?_
    obtain rfl : i = n := by omega
    rw [List.take_of_length_le (by omega)] at hout
    exact ends1 (reads_tmp rfl) ⟨by rw [← hout, ← hno]; exact hown, hX⟩
end Go.Proofs.YtmmijecookbajaaDoor
