/- history.Root answers as the specification says and notes what it hashed. Conditions: none beyond those in the theorems. By an AI agent. -/
import Derived.Test.YtlkeofjgmegcfaaDoorHist
namespace Go.Proofs.YtlkeofjgmegcfaaDoor
open Go Go.RowKit

/-- A slice of hashes. -/
structure HsR (w : World) (a : Option Addr) (n c : Nat) (hs : List (List Nat)) : Prop where
  rd : SlR w 32 a n c (natsC .u8 hs.flatten)
  len : hs.length = n
  ok : ∀ h ∈ hs, HOk h
theorem HsR.keep {w w' : World} {a : Option Addr} {n c : Nat} {hs : List (List Nat)} {M : List Nat} (h : HsR w a n c hs) (x : Chg w w' M) (hn : ∀ p, a = some p → p.block ∉ M) : HsR w' a n c hs := ⟨h.rd.keep x hn, h.len, h.ok⟩
theorem HsR.keep0 {w w' : World} {a : Option Addr} {n c : Nat} {hs : List (List Nat)} (h : HsR w a n c hs) (x : Chg w w' []) : HsR w' a n c hs := h.keep x (by simp)
theorem flat32 {hs : List (List Nat)} (h : ∀ x ∈ hs, HOk x) : hs.flatten.length = hs.length * 32 := by
  induction hs with
  | nil => rfl
  | cons x hs ih =>
    have := (h x (by simp)).1
    have ih := ih (fun y hy => h y (by simp [hy]))
    simp only [List.flatten_cons, List.length_append, List.length_cons]; omega
theorem flat_take32 {hs : List (List Nat)} (h : ∀ x ∈ hs, HOk x) (k : Nat) : hs.flatten.take (k * 32) = (hs.take k).flatten := by
  induction hs generalizing k with
  | nil => simp
  | cons x hs ih =>
    have hx := (h x (by simp)).1
    cases k with
    | zero => simp
    | succ k =>
      have ih := ih (fun y hy => h y (by simp [hy])) k
      simp only [List.flatten_cons, List.take_succ_cons]
      rw [List.take_append, List.take_of_length_le (by omega), show (k + 1) * 32 - x.length = k * 32 by omega, ih]
theorem flat_drop32 {hs : List (List Nat)} (h : ∀ x ∈ hs, HOk x) (k : Nat) : hs.flatten.drop (k * 32) = (hs.drop k).flatten := by
  induction hs generalizing k with
  | nil => simp
  | cons x hs ih =>
    have hx := (h x (by simp)).1
    cases k with
    | zero => simp
    | succ k =>
      have ih := ih (fun y hy => h y (by simp [hy])) k
      simp only [List.flatten_cons, List.drop_succ_cons]
      rw [List.drop_append, List.drop_eq_nil_of_le (by omega), List.nil_append, show (k + 1) * 32 - x.length = k * 32 by omega, ih]
theorem HsR.to_ {w : World} {a : Option Addr} {n c : Nat} {hs : List (List Nat)} (h : HsR w a n c hs) (k : Nat) (hk : k ≤ n) : HsR w a k c (hs.take k) := by
  have := h.rd.to_ k hk
  rw [← natsC_take, flat_take32 h.ok] at this
  exact ⟨this, by rw [List.length_take, h.len]; omega, fun x hx => h.ok x (List.mem_of_mem_take hx)⟩
theorem HsR.from_ {w : World} {a : Option Addr} {n c : Nat} {hs : List (List Nat)} (h : HsR w a n c hs) (k : Nat) (hk : k ≤ n) : HsR w (cutA a c k 32) (n - k) (c - k) (hs.drop k) := by
  have := h.rd.from_ k hk
  rw [← natsC_drop, flat_drop32 h.ok] at this
  exact ⟨this, by rw [List.length_drop, h.len], fun x hx => h.ok x (List.mem_of_mem_drop hx)⟩
theorem HsR.elem {w : World} {b o : Nat} {n c : Nat} {hs : List (List Nat)} (h : HsR w (some ⟨b, o, none⟩) n c hs) {i : Nat} {x : List Nat} (hx : hs[i]? = some x) : At w b (o + i * 32) (natsC .u8 x) := by
  have := h.rd.elem i
  have hi : i < hs.length := (List.getElem?_eq_some_iff.1 hx).1
  rw [← natsC_drop, flat_drop32 h.ok, ← natsC_take] at this
  have e : (hs.drop i).flatten.take 32 = x := by
    rw [List.drop_eq_getElem_cons hi, List.flatten_cons]
    have hxe : hs[i] = x := by rw [List.getElem?_eq_getElem hi] at hx; exact Option.some.inj hx
    have := (h.ok _ (List.getElem_mem hi)).1
    rw [List.take_append, List.take_of_length_le (by omega), show 32 - hs[i].length = 0 by omega, List.take_zero, List.append_nil, hxe]
  rwa [e] at this
theorem cutA_block {a : Option Addr} {c l size : Nat} {p : Addr} (h : cutA a c l size = some p) : ∃ q, a = some q ∧ q.block = p.block := by
  unfold cutA at h
  split at h
  · exact ⟨p, h, rfl⟩
  · cases a with
    | none => cases h
    | some q => simp at h; subst h; exact ⟨q, rfl, by unfold Addr.add; split <;> rfl⟩
theorem HsR.lt {w : World} {a : Option Addr} {n c : Nat} {hs : List (List Nat)} (h : HsR w a n c hs) (hn : 0 < n) : ∀ p, a = some p → p.block < w.heap.size := by
  intro p hp
  obtain ⟨b, o, rfl⟩ := h.rd.some_ hn
  cases hp
  have hl := h.len
  obtain ⟨x, hx⟩ : ∃ x, hs[0]? = some x := ⟨_, List.getElem?_eq_getElem (by omega)⟩
  have hat := h.elem hx
  have hx32 := (h.ok x (List.mem_of_getElem? hx)).1
  obtain ⟨y, hy⟩ : ∃ y, x[0]? = some y := ⟨_, List.getElem?_eq_getElem (by omega)⟩
  exact World.block_lt_of_cell? w _ (hat 0 _ (natsC_get hy))

/-- What is asked of a call on a tape and hashes. -/
structure Pre (B : Nat) (A : Nat → Prop) (tv : Value) (ts : TS) (w : World) : Prop where
  g : GH B w
  bw : B ≤ w.heap.size
  t : TArg w B A tv ts
  a : ∀ k, A k → k < w.heap.size
theorem Pre.keep {B : Nat} {A : Nat → Prop} {tv : Value} {ts : TS} {w w' : World} {M : List Nat} (h : Pre B A tv ts w) (x : Chg w w' M) (hM : ∀ k ∈ M, B ≤ k ∧ ¬ A k) : Pre B A tv ts w' := by
  have := x.size
  have hb := h.bw
  exact ⟨h.g.keep x (fun k hk => (hM k hk).1), by omega, h.t.keep x (fun k hk => (hM k hk).2), fun k hk => by have := h.a k hk; omega⟩
theorem Pre.keep0 {B : Nat} {A : Nat → Prop} {tv : Value} {ts : TS} {w w' : World} (h : Pre B A tv ts w) (x : Chg w w' []) : Pre B A tv ts w' := h.keep x (by simp)
theorem Pre.after {B : Nat} {A : Nat → Prop} {tv : Value} {ts ts' : TS} {w w' : World} {L : List (List Nat)} (h : Pre B A tv ts w) (p : TPost w w' B A tv ts ts' L) : Pre B (Adds A w.heap.size w'.heap.size) tv ts' w' := by
  have := p.chg.size
  have hb := h.bw
  exact ⟨h.g.keep p.chg (fun k hk => h.t.foot_lo k hk), by omega, p.arg, fun k hk => hk.elim (fun hk => by have := h.a k hk; omega) (fun hk => hk.2)⟩
theorem root_ok (m : Nat) : ∀ hs : List (List Nat), hs.length ≤ m → (∀ h ∈ hs, HOk h) → HOk (Sp.root hs) := by
  induction m with
  | zero => intro hs h _; rw [List.eq_nil_of_length_eq_zero (show hs.length = 0 by omega)]; exact sha_ok _
  | succ m ih =>
    intro hs h hok
    by_cases h2 : 2 ≤ hs.length
    · rw [Sp.root_two hs h2]; exact sha_ok _
    · match hs, h2, hok with
      | [], _, _ => exact sha_ok _
      | [x], _, hok => exact hok x (by simp)
      | _ :: _ :: _, h2, _ => simp at h2
theorem node_ok (a b : List Nat) : HOk (Sp.node a b) := sha_ok _
theorem leaf_ok (a : List Nat) : HOk (Sp.leaf a) := sha_ok _
theorem parts_nil (w : World) : Parts w none 0 0 [] := ⟨⟨[], SlR.nil_ _ _, rfl, fun i v bs hv => by simp at hv⟩⟩

set_option maxHeartbeats 2000000 in
theorem root_calls (m : Nat) : ∀ (hs : List (List Nat)), hs.length ≤ m → ∀ (B : Nat) (A : Nat → Prop) (tv : Value) (ts : TS) (a : Option Addr) (n c : Nat) (w : World), Pre B A tv ts w → HsR w a n c hs →
    (∀ p, a = some p → p.block ∉ foot ts) → n ≤ 1048576 → ts.len + n ≤ 1073741824 →
    CallsR Tryd.prog 19 #[tv, .slice a n c] w fun v w' => v = hv (Sp.root hs) ∧ ∃ ts', TPost w w' B A tv ts ts' (Sp.notes hs) := by
  induction m with
  | zero =>
    intro hs hm B A tv ts a n c w hP hH hd hn htl
    obtain rfl : hs = [] := List.eq_nil_of_length_eq_zero (by omega)
    obtain rfl : n = 0 := hH.len.symm
    have hA := hP.a
    have hTf := hP.t.foot_hi
    refine f_enter (l := [tv, .slice a 0 c]) Tryd.func19 rfl rfl rfl rfl ?_
    intro Qf hnrm hret
    refine c_seqreg (fun K1 hK1 => ?_)
    refine s_alloc ty43 rfl rfl ?_
    intro b4 w1 e0_0 z0_0 hb4 X0_0
    replace hP := hP.keep0 X0_0
    replace hH := hH.keep0 X0_0
    refine s_nil ?_
    refine hK1 _ _ ?_
    refine c_seq (fun K3 hK3 => ?_)
    refine c_seqreg (fun K4 hK4 => ?_)
    refine s_val rfl rfl (runs_move rfl) ?_
    refine s_val rfl rfl (runs_len_slice Tryd.underlying51 rfl) ?_
    refine s_nil ?_
    refine hK4 _ _ ?_
    refine c_block ?_
    refine c_seqreg (fun K5 hK5 => ?_)
    refine s_val rfl rfl (runs_dt (runs_eqd rfl rfl) (by omega)) ?_
    refine s_val rfl rfl (runs_assign rfl) ?_
    refine s_nil ?_
    refine hK5 _ _ ?_
    refine c_true rfl ?_
    refine c_seqreg (fun K6 hK6 => ?_)
    refine s_val rfl rfl (runs_move rfl) ?_
    refine s_callf (xs := [.tmp 10, .const (.slice none 0 0)]) rfl rfl Tryd.func24 rfl (by kernel_rfl) rfl (of_calls B A tv ts [] none 0 0 _ hP.g.sha hP.bw (parts_nil _) (by simp) hP.t hP.a (by omega)) ?_
    rintro v9 w3 ⟨rfl, ts', hTP⟩
    replace hb4 := hb4.keep hTP.chg (fun hm => by have := hA _ (hTf _ hm); omega)
    have zs3_1 := hTP.chg.size
    refine s_storeAll ty43 rfl rfl rfl hb4 (by rw [natsC_length, sha_length]) rfl (natsC_one _ _) ?_
    intro w4 z3_2 h3_2 X3_2
    replace hb4 := h3_2
    refine s_nil ?_
    refine hK6 _ _ ?_
    refine c_ret ?_
    refine hret _ _ ?_
    refine ends1 (reads_cell ty43 rfl hb4.at (by rw [natsC_length, sha_length])) ⟨by rw [Sp.root_nil]; rfl, ts', ?_⟩
    have hTP' := TPost.wrap X0_0 (by simp) hTP X3_2 (by intro k hk; obtain rfl : k = b4 := (by simpa using hk); exact ⟨by omega, fun h => h.elim (fun h => by have := hA _ h; omega) (fun h => by omega)⟩)
    rw [Sp.notes_nil]
    simpa using hTP'
  | succ m ih =>
    intro hs hm B A tv ts a n c w hP hH hd hn htl
    have hA := hP.a
    have hTf := hP.t.foot_hi
    have hlen := hH.len
    refine f_enter (l := [tv, .slice a n c]) Tryd.func19 rfl rfl rfl rfl ?_
    intro Qf hnrm hret
    refine c_seqreg (fun K1 hK1 => ?_)
    refine s_alloc ty43 rfl rfl ?_
    intro b4 w1 e0_0 z0_0 hb4 X0_0
    replace hP := hP.keep0 X0_0
    replace hH := hH.keep0 X0_0
    refine s_nil ?_
    refine hK1 _ _ ?_
    refine c_seq (fun K3 hK3 => ?_)
    refine c_seqreg (fun K4 hK4 => ?_)
    refine s_val rfl rfl (runs_move rfl) ?_
    refine s_val rfl rfl (runs_len_slice Tryd.underlying51 rfl) ?_
    refine s_nil ?_
    refine hK4 _ _ ?_
    refine c_block ?_
    refine c_seqreg (fun K5 hK5 => ?_)
    refine s_val rfl rfl (runs_eqd rfl rfl) ?_
    refine s_val rfl rfl (runs_assign rfl) ?_
    refine s_nil ?_
    refine hK5 _ _ ?_
    refine c_dec rfl (fun h0 => ?_) (fun h0 => ?_)
    · obtain rfl : hs = [] := List.eq_nil_of_length_eq_zero (by omega)
      refine c_seqreg (fun K6 hK6 => ?_)
      refine s_val rfl rfl (runs_move rfl) ?_
      refine s_callf (xs := [.tmp 10, .const (.slice none 0 0)]) rfl rfl Tryd.func24 rfl (by kernel_rfl) rfl (of_calls B A tv ts [] none 0 0 _ hP.g.sha hP.bw (parts_nil _) (by simp) hP.t hP.a (by omega)) ?_
      rintro v9 w3 ⟨rfl, ts', hTP⟩
      replace hb4 := hb4.keep hTP.chg (fun hm => by have := hA _ (hTf _ hm); omega)
      have zs3_1 := hTP.chg.size
      refine s_storeAll ty43 rfl rfl rfl hb4 (by rw [natsC_length, sha_length]) rfl (natsC_one _ _) ?_
      intro w4 z3_2 h3_2 X3_2
      replace hb4 := h3_2
      refine s_nil ?_
      refine hK6 _ _ ?_
      refine c_ret ?_
      refine hret _ _ ?_
      refine ends1 (reads_cell ty43 rfl hb4.at (by rw [natsC_length, sha_length])) ⟨by rw [Sp.root_nil]; rfl, ts', ?_⟩
      have hTP' := TPost.wrap X0_0 (by simp) hTP X3_2 (by intro k hk; obtain rfl : k = b4 := (by simpa using hk); exact ⟨by omega, fun h => h.elim (fun h => by have := hA _ h; omega) (fun h => by omega)⟩)
      rw [Sp.notes_nil]
      simpa using hTP'
    · refine c_seqreg (fun K9 hK9 => ?_)
      refine s_val rfl rfl (runs_eqd rfl rfl) ?_
      refine s_val rfl rfl (runs_assign rfl) ?_
      refine s_nil ?_
      refine hK9 _ _ ?_
      refine c_dec rfl (fun h1 => ?_) (fun h1 => ?_)
      · obtain ⟨x, rfl⟩ : ∃ x, hs = [x] := by
          match hs, hlen with
          | [x], _ => exact ⟨x, rfl⟩
          | [], e => simp at e; omega
          | _ :: _ :: _, e => simp at e; omega
        obtain ⟨ba, oa, rfl⟩ := hH.rd.some_ (by omega)
        have hx32 := hH.ok x (by simp)
        refine c_seqreg (fun K10 hK10 => ?_)
        refine s_val rfl rfl (runs_move rfl) ?_
        refine s_val rfl rfl (runs_index_slice (0) Tryd.underlying51 ty43 rfl rfl (by omega) (by omega)) ?_
        refine s_val rfl rfl (runs_loadAgg ty43 rfl (hH.elem (i := 0) rfl) (by rw [natsC_length, hx32.1])) ?_
        refine s_storeAll ty43 rfl rfl rfl hb4 (by rw [natsC_length, hx32.1]) rfl (natsC_one _ _) ?_
        intro w5 z5_3 h5_3 X5_3
        replace hb4 := h5_3
        refine s_nil ?_
        refine hK10 _ _ ?_
        refine c_ret ?_
        refine hret _ _ ?_
        refine ends1 (reads_cell ty43 rfl hb4.at (by rw [natsC_length, hx32.1])) ⟨by rw [Sp.root_one], ts, ?_⟩
        have hTP' := TPost.wrap X0_0 (by simp) (TPost.refl hP.t) X5_3 (by intro k hk; obtain rfl : k = b4 := (by simpa using hk); exact ⟨by omega, fun h => h.elim (fun h => by have := hA _ h; omega) (fun h => by omega)⟩)
        rw [Sp.notes_one]
        exact hTP'
      · refine c_skip ?_
        refine hK3 _ _ ?_
        refine c_seqreg (fun K12 hK12 => ?_)
        refine s_val rfl rfl (runs_move rfl) ?_
        refine s_val rfl rfl (runs_len_slice Tryd.underlying51 rfl) ?_
        refine s_callf (xs := [.tmp 18]) rfl rfl Tryd.func28 rfl (by kernel_rfl) rfl (split_calls n _ (by omega)) ?_
        rintro _ w6 ⟨rfl, X6_2⟩
        replace hP := hP.keep0 X6_2
        replace hH := hH.keep0 X6_2
        replace hb4 := hb4.keep X6_2 (by simp)
        have zs6_2 := X6_2.size
        refine s_val rfl rfl (runs_assign rfl) ?_
        refine s_nil ?_
        have h2 : 2 ≤ n := by omega
        have hk0 := Sp.split_pos n
        have hk1 := Sp.split_lt h2
        obtain ⟨k, hk⟩ : ∃ k, k = Sp.split n := ⟨_, rfl⟩
        rw [← hk] at hk0 hk1 ⊢
        have hcn := hH.rd.le
        have hroot : Sp.root hs = Sp.node (Sp.root (hs.take k)) (Sp.root (hs.drop k)) := by rw [Sp.root_two hs (by omega), hlen, ← hk]
        have hnotes : Sp.notes hs = Sp.notes (hs.take k) ++ Sp.notes (hs.drop k) ++ [1 :: (Sp.root (hs.take k) ++ Sp.root (hs.drop k))] := by rw [Sp.notes_two hs (by omega), hlen, ← hk]
        have hlt := hH.lt (by omega)
        have e1 : (hs.take k).length = k := by rw [List.length_take]; omega
        have e2 : (hs.drop k).length = n - k := by rw [List.length_drop]; omega
        have n1 := Sp.notes_le' (hs.take k) (by intro e; rw [e] at e1; simp at e1; omega)
        have n2 := Sp.notes_le' (hs.drop k) (by intro e; rw [e] at e2; simp at e2; omega)
        refine hK12 _ _ ?_
        refine c_seqdraw [12] ((foot ts)) (by kernel_rfl) ?_
        intro K14 hK14 wd7 Xd7 hS7
        replace hP := hP.keep0 Xd7
        replace hH := hH.keep0 Xd7
        replace hb4 := hb4.keep Xd7 (by simp)
        have zd7 := Xd7.size
        have hz1 : b4 < wd7.heap.size := hb4.lt
        have hz0 := ((X0_0.trans X6_2).trans Xd7).size
        have hz6 := Xd7.size
        refine d_take 0 20 rfl (by kernel_rfl) rfl hS7 (fun wS hS => runs_move rfl) ?_
        refine d_take 1 21 rfl (by kernel_rfl) rfl hS7 (fun wS hS => runs_move rfl) ?_
        refine d_take 2 22 rfl (by kernel_rfl) rfl hS7 (fun wS hS => runs_move rfl) ?_
        refine d_take 3 23 rfl (by kernel_rfl) rfl hS7 (fun wS hS => runs_move rfl) ?_
        refine d_take 4 24 rfl (by kernel_rfl) rfl hS7 (fun wS hS => runs_slice_to (k) Tryd.underlying51 ty43 rfl rfl (by omega) (by omega)) ?_
        refine d_take 6 26 rfl (by kernel_rfl) rfl hS7 (fun wS hS => runs_move rfl) ?_
        refine d_take 7 27 rfl (by kernel_rfl) rfl hS7 (fun wS hS => runs_move rfl) ?_
        refine d_take 8 28 rfl (by kernel_rfl) rfl hS7 (fun wS hS => runs_move rfl) ?_
        refine d_take 9 29 rfl (by kernel_rfl) rfl hS7 (fun wS hS => runs_slice_from (k) Tryd.underlying51 ty43 rfl rfl (by omega) (by omega)) ?_
        refine d_only 5 rfl (by kernel_rfl) ?_
        refine s_callf (xs := [.tmp 21, .tmp 24]) rfl rfl Tryd.func19 rfl (by kernel_rfl) rfl (ih (hs.take k) (by rw [List.length_take]; omega) B A tv ts a k c _ hP (hH.to_ k (by omega)) hd (by omega) (by omega)) ?_
        rintro _ w7 ⟨rfl, ts1, hTP1⟩
        have zs7_5 := hTP1.chg.size
        replace hS7 : Chg wd7 _ ((foot ts)) := (hS7.trans hTP1.chg).mono (by intro k hk hlt; simp at hk ⊢ <;> first | assumption | omega)
        refine s_nil ⟨.inr hS7, ?_⟩
        refine d_only 10 rfl (by kernel_rfl) ?_
        refine s_callf (xs := [.tmp 26, .tmp 29]) rfl rfl Tryd.func19 rfl (by kernel_rfl) rfl (ih (hs.drop k) (by rw [List.length_drop]; omega) B (Adds A wd7.heap.size w7.heap.size) tv ts1 (cutA a c k 32) (n - k) (c - k) _ (hP.after hTP1) ((hH.keep hTP1.chg hd).from_ k (by omega)) (fun p hp hm => by
              obtain ⟨q, hq, e⟩ := cutA_block hp
              rcases hTP1.foot _ hm with hm | hm
              · exact hd q hq (e ▸ hm)
              · have := hlt q hq; omega) (by omega) (by have := hTP1.notes.len; omega)) ?_
        rintro _ w8 ⟨rfl, ts2, hTP2⟩
        have zs7_10 := hTP2.chg.size
        have hTP12 := hTP1.trans hTP2 (fun _ h => h)
        replace hS7 : Chg wd7 _ (foot ts) := hTP12.chg
        refine s_nil ⟨.inr hS7, ?_⟩
        refine d_only 11 rfl (by kernel_rfl) ?_
        refine s_callf (xs := [.tmp 20, .tmp 25, .tmp 30]) rfl rfl Tryd.func29 rfl (by kernel_rfl) rfl (node_calls B (Adds (Adds A wd7.heap.size w7.heap.size) w7.heap.size w8.heap.size) tv ts2 (Sp.root (hs.take k)) (Sp.root (hs.drop k)) _ ((hP.after hTP1).after hTP2).g ((hP.after hTP1).after hTP2).bw (root_ok _ _ (Nat.le_refl _) (fun x hx => hH.ok x (List.mem_of_mem_take hx))) (root_ok _ _ (Nat.le_refl _) (fun x hx => hH.ok x (List.mem_of_mem_drop hx))) ((hP.after hTP1).after hTP2).t ((hP.after hTP1).after hTP2).a (by have h1 := hTP12.notes.len; rw [List.length_append] at h1; omega)) ?_
        rintro _ w9 ⟨rfl, ts3, hTP3⟩
        have zs7_11 := hTP3.chg.size
        have hTP13 := hTP12.trans hTP3 (fun b hb => by
          have h0 := hTP1.chg.size
          have h1 := hTP2.chg.size
          rcases hb with (hb | hb) | hb
          · exact .inl hb
          · exact .inr ⟨hb.1, by omega⟩
          · exact .inr ⟨by omega, hb.2⟩)
        replace hS7 : Chg wd7 _ (foot ts) := hTP13.chg
        refine s_nil ⟨.inr hS7, ?_⟩
        refine d_only 12 rfl (by kernel_rfl) ?_
        replace hb4 := hb4.keep hS7 (fun hm => by have := hA _ (hTf _ hm); omega)
        refine s_storeAll ty43 rfl rfl rfl hb4 (by rw [natsC_length, (node_ok _ _).1]) rfl (natsC_one _ _) ?_
        intro w10 z7_12 h7_12 X7_12
        replace hb4 := h7_12
        refine s_nil ⟨.inl rfl, ?_⟩
        refine d_done (by kernel_rfl) ?_
        refine hK14 _ _ ?_
        refine c_ret ?_
        refine hret _ _ ?_
        refine ends1 (reads_cell ty43 rfl hb4.at (by rw [natsC_length, (node_ok _ _).1])) ⟨by rw [hroot], ts3, ?_⟩
        rw [hnotes]
        exact TPost.wrap ((X0_0.trans X6_2).trans Xd7) (by simp) hTP13 X7_12 (by intro k hk; obtain rfl : k = b4 := (by simpa using hk); exact ⟨by omega, fun h => h.elim (fun h => by have := hA _ h; omega) (fun h => by omega)⟩)
end Go.Proofs.YtlkeofjgmegcfaaDoor
