/- Part StB of the proofs on this seat. Conditions: none beyond those in the theorems. By an AI agent. -/
import Derived.Test.YtmmijecookbajaaDoorStA
import Derived.Test.YtmmijecookbajaaDoorSp4
namespace Go.Proofs.YtmmijecookbajaaDoor
open Go Go.RowKit

/-- From a hash up along a path. -/
def Sp.aclimb (id : Nm) : Nat → List (List Nat) → List Nat → List Nat
  | _, [], h => h
  | k, p :: ps, h => if Sp.bit id k = 1 then Sp.fork p (Sp.aclimb id (k + 1) ps h) else Sp.fork (Sp.aclimb id (k + 1) ps h) p
/-- What is noted for it. -/
def Sp.aclimbN (id : Nm) : Nat → List (List Nat) → List Nat → List (List Nat)
  | _, [], _ => []
  | k, p :: ps, h => Sp.aclimbN id (k + 1) ps h ++ [3 :: (if Sp.bit id k = 1 then p ++ Sp.aclimb id (k + 1) ps h else Sp.aclimb id (k + 1) ps h ++ p)]
def Sp.side (l : List Ac) (k b : Nat) : List Ac := if b = 0 then l.take (Sp.lows l k) else l.drop (Sp.lows l k)
/-- The roots of the other sides on a number's way; where the way ends. -/
def Sp.apathF : Nat → Nm → Nat → List Ac → List (List Nat)
  | 0, _, _, _ => []
  | f + 1, id, k, l => if l.length ≤ 1 then [] else Sp.aroot (k + 1) (Sp.side l k (1 - Sp.bit id k)) :: Sp.apathF f id (k + 1) (Sp.side l k (Sp.bit id k))
def Sp.aendF : Nat → Nm → Nat → List Ac → List Ac
  | 0, _, _, l => l
  | f + 1, id, k, l => if l.length ≤ 1 then l else Sp.aendF f id (k + 1) (Sp.side l k (Sp.bit id k))
def Sp.apath (id : Nm) (k : Nat) (l : List Ac) : List (List Nat) := Sp.apathF (128 - k) id k l
def Sp.aend (id : Nm) (k : Nat) (l : List Ac) : List Ac := Sp.aendF (128 - k) id k l
theorem apath_few {id : Nm} {k : Nat} {l : List Ac} (h : l.length ≤ 1) : Sp.apath id k l = [] := by
  unfold Sp.apath
  cases 128 - k with
  | zero => rfl
  | succ f => simp [Sp.apathF, h]
theorem aend_few {id : Nm} {k : Nat} {l : List Ac} (h : l.length ≤ 1) : Sp.aend id k l = l := by
  unfold Sp.aend
  cases 128 - k with
  | zero => rfl
  | succ f => simp [Sp.aendF, h]
theorem apath_two {id : Nm} {k : Nat} {l : List Ac} (hk : k < 128) (h : 2 ≤ l.length) : Sp.apath id k l = Sp.aroot (k + 1) (Sp.side l k (1 - Sp.bit id k)) :: Sp.apath id (k + 1) (Sp.side l k (Sp.bit id k)) := by
  unfold Sp.apath
  rw [show 128 - k = (128 - (k + 1)) + 1 by omega, Sp.apathF, if_neg (by omega)]
theorem aend_two {id : Nm} {k : Nat} {l : List Ac} (hk : k < 128) (h : 2 ≤ l.length) : Sp.aend id k l = Sp.aend id (k + 1) (Sp.side l k (Sp.bit id k)) := by
  unfold Sp.aend
  rw [show 128 - k = (128 - (k + 1)) + 1 by omega, Sp.aendF, if_neg (by omega)]
theorem Wf.side {k b : Nat} {l : List Ac} (h : Wf k l) (hk : k < 128) : Wf (k + 1) (Sp.side l k b) := by
  unfold Sp.side; split
  · exact h.lo hk
  · exact h.hi hk
theorem side_mem {k b : Nat} {l : List Ac} (h : Wf k l) (hk : k < 128) (hb : b < 2) {a : Ac} : a ∈ Sp.side l k b ↔ a ∈ l ∧ Sp.bit a.id k = b := by
  have e : l = l.take (Sp.lows l k) ++ l.drop (Sp.lows l k) := (List.take_append_drop _ _).symm
  constructor
  · intro ha
    unfold Sp.side at ha
    split at ha
    · exact ⟨List.mem_of_mem_take ha, by rw [lows_take a ha]; omega⟩
    · exact ⟨List.mem_of_mem_drop ha, by rw [lows_drop h hk a ha]; omega⟩
  · rintro ⟨ha, hab⟩
    rw [e] at ha
    unfold Sp.side
    rcases List.mem_append.1 ha with ha | ha
    · rw [if_pos (by have := lows_take a ha; omega)]; exact ha
    · rw [if_neg (by have := lows_drop h hk a ha; omega)]; exact ha
/-- Where a way ends: of none None, of one its leaf. -/
def Sp.atop (l : List Ac) : List Nat := match l with
  | [] => Sp.anone
  | a :: _ => Sp.aleaf a
theorem aroot_few {k : Nat} (hk : k ≤ 128) {l : List Ac} (h : l.length ≤ 1) : Sp.aroot k l = Sp.atop l := by
  match l, h with
  | [], _ => exact aroot_nil hk
  | [a], _ => exact aroot_one hk a
/-- A proof leads to the root. -/
theorem climb_prove (id : Nm) : ∀ (m k : Nat) (l : List Ac), 128 - k < m → Wf k l → Sp.aclimb id k (Sp.apath id k l) (Sp.atop (Sp.aend id k l)) = Sp.aroot k l ∧ (Sp.aend id k l).length ≤ 1 := by
  intro m
  induction m with
  | zero => intro k l h; omega
  | succ m ih =>
    intro k l hm h
    by_cases h2 : l.length ≤ 1
    · rw [apath_few h2, aend_few h2, aroot_few h.k_le h2]; exact ⟨rfl, h2⟩
    · have hk := h.lt (by omega)
      have h1 := ih (k + 1) (Sp.side l k (Sp.bit id k)) (by omega) (h.side hk)
      rw [apath_two hk (by omega), aend_two hk (by omega), aroot_two hk (by omega)]
      refine ⟨?_, h1.2⟩
      rw [Sp.aclimb, h1.1]
      have hb := bit_lt id k
      by_cases hb1 : Sp.bit id k = 1
      · rw [if_pos hb1, hb1]; rfl
      · rw [if_neg hb1, show Sp.bit id k = 0 by omega]; rfl
theorem apath_len (id : Nm) : ∀ (m k : Nat) (l : List Ac), 128 - k < m → Wf k l → (Sp.apath id k l).length ≤ 128 - k := by
  intro m
  induction m with
  | zero => intro k l h; omega
  | succ m ih =>
    intro k l hm h
    by_cases h2 : l.length ≤ 1
    · rw [apath_few h2]; simp
    · have hk := h.lt (by omega)
      have h1 := ih (k + 1) (Sp.side l k (Sp.bit id k)) (by omega) (h.side hk)
      rw [apath_two hk (by omega)]
      simp only [List.length_cons]; omega
theorem apath_ok (id : Nm) : ∀ (m k : Nat) (l : List Ac), 128 - k < m → Wf k l → ∀ x ∈ Sp.apath id k l, HOk x := by
  intro m
  induction m with
  | zero => intro k l h; omega
  | succ m ih =>
    intro k l hm h x hx
    by_cases h2 : l.length ≤ 1
    · rw [apath_few h2] at hx; simp at hx
    · have hk := h.lt (by omega)
      rw [apath_two hk (by omega)] at hx
      rcases List.mem_cons.1 hx with rfl | hx
      · exact aroot_ok _ _
      · exact ih (k + 1) _ (by omega) (h.side hk) x hx
theorem aclimb_ok (id : Nm) (h : List Nat) (ok : HOk h) : ∀ (ps : List (List Nat)) (k : Nat), HOk (Sp.aclimb id k ps h) := by
  intro ps
  induction ps with
  | nil => intro k; exact ok
  | cons p ps ih => intro k; rw [Sp.aclimb]; split <;> exact fork_ok _ _
/-- The account with the number, if there is one. -/
theorem aend_mem (id : Nm) : ∀ (m k : Nat) (l : List Ac), 128 - k < m → Wf k l → ∀ a, a ∈ Sp.aend id k l → a ∈ l ∧ ∀ i, k ≤ i → i < k + (Sp.apath id k l).length → Sp.bit a.id i = Sp.bit id i := by
  intro m
  induction m with
  | zero => intro k l h; omega
  | succ m ih =>
    intro k l hm h a ha
    by_cases h2 : l.length ≤ 1
    · rw [aend_few h2] at ha
      refine ⟨ha, fun i h1 h3 => ?_⟩
      rw [apath_few h2] at h3; simp at h3; omega
    · have hk := h.lt (by omega)
      rw [aend_two hk (by omega)] at ha
      obtain ⟨h1, h3⟩ := ih (k + 1) _ (by omega) (h.side hk) a ha
      obtain ⟨h4, h5⟩ := (side_mem h hk (bit_lt id k)).1 h1
      refine ⟨h4, fun i hi1 hi2 => ?_⟩
      rw [apath_two hk (by omega), List.length_cons] at hi2
      by_cases e : i = k
      · subst e; exact h5
      · exact h3 i (by omega) (by omega)
theorem aend_has (id : Nm) : ∀ (m k : Nat) (l : List Ac), 128 - k < m → Wf k l → ∀ a ∈ l, a.id = id → a ∈ Sp.aend id k l := by
  intro m
  induction m with
  | zero => intro k l h; omega
  | succ m ih =>
    intro k l hm h a ha hid
    by_cases h2 : l.length ≤ 1
    · rw [aend_few h2]; exact ha
    · have hk := h.lt (by omega)
      rw [aend_two hk (by omega)]
      exact ih (k + 1) _ (by omega) (h.side hk) a ((side_mem h hk (bit_lt id k)).2 ⟨ha, by rw [hid]⟩) hid
end Go.Proofs.YtmmijecookbajaaDoor
namespace Go.Proofs.YtmmijecookbajaaDoor
open Go Go.RowKit

def Sp.zeroA : Ac := ⟨(0, 0), 0, 0, (0, 0), (0, 0), (0, 0), (0, 0), 0, 0, List.replicate 32 0⟩
theorem zeroA_num : Sp.zeroA.Num := by
  have z : NOk (0, 0) := by unfold NOk; simp
  exact ⟨z, z, z, z, z, by simp [Sp.zeroA], fun x hx => by simp [Sp.zeroA] at hx; omega⟩
/-- A proof's cells. -/
def pfC (th : Bool) (r : Ac) (s : Value) : List Value := .bool th :: (r.C ++ [s])
def pfv (th : Bool) (r : Ac) (s : Value) : Value := .agg (pfC th r s).toArray
theorem pfC_len {th : Bool} {r : Ac} {s : Value} (h : r.Num) : (pfC th r s).length = 48 := by simp [pfC, Ac.len h]
theorem part_calls (l : List Ac) (a : Option Addr) (n c k b : Nat) (w : World) (hR : AcR w a n c l) (hk : k ≤ 1000) (hn : n ≤ 1000) (hb : b < 2) :
    CallsR Tryd.prog 26 #[.slice a n c, .int .i64 (b : Int), .int .i64 (k : Int)] w fun v w' => ∃ a' n' c', v = .slice a' n' c' ∧ AcR w' a' n' c' (Sp.side l k b) ∧ n' ≤ n ∧ (∀ p, a' = some p → ∃ q, a = some q ∧ q.block = p.block) ∧ Chg w w' [] := by
  have hle := lows_le l k
  have hlen := hR.len
  by_cases h : b = 0
  · subst h
    refine (part0_calls l a n c k w hR hk hn).mono fun v w' ⟨e, x⟩ => ⟨_, _, _, e, ?_, by omega, fun p hp => ⟨p, hp, rfl⟩, x⟩
    exact (hR.keep0 x).to_ _ (by omega)
  · obtain rfl : b = 1 := by omega
    refine (part1_calls l a n c k w hR hk hn).mono fun v w' ⟨e, x⟩ => ⟨_, _, _, e, ?_, by omega, fun p hp => cutA_block hp, x⟩
    exact (hR.keep0 x).from_ _ (by omega)
theorem anotes_few {k : Nat} {l : List Ac} (h : Wf k l) (hn : l.length ≤ 1000) : (Sp.anotes k l).length ≤ 300000 := by
  have h1 := anotes_le _ k l (Nat.lt_succ_self _) h
  have h2 : l.length * (2 * (128 - k)) ≤ 1000 * 256 := Nat.mul_le_mul hn (by omega)
  omega
theorem aroot0 {B : Nat} {w : World} {k n c : Nat} {a : Option Addr} {l : List Ac} (g : GH B w) (b : B ≤ w.heap.size) (hw : Wf k l) (hR : AcR w a n c l) (hn : n ≤ 1000) :
    CallsR Tryd.prog 15 #[.pointer none, .int .i64 (k : Int), .slice a n c] w fun v w' => v = hv (Sp.aroot k l) ∧ Chg w w' [] :=
  (aroot_calls _ k l (Nat.lt_succ_self _) B _ _ none a n c w (pre0 g b) hw hR (fun _ _ => by simp [foot]) hn (by have := anotes_few hw (by rw [hR.len]; exact hn); simp [TS.len]; omega)).mono fun _ _ ⟨e, _, p⟩ => ⟨e, p.chg⟩
theorem none0 {B : Nat} {w : World} (g : GH B w) (b : B ≤ w.heap.size) : CallsR Tryd.prog 19 #[.pointer none] w fun v w' => v = hv Sp.anone ∧ Chg w w' [] :=
  (none_calls B (fun _ => False) _ none w g b rfl (fun _ h => h.elim) (by simp [TS.len])).mono fun _ _ ⟨e, _, p⟩ => ⟨e, p.chg⟩
theorem aleaf0 {B : Nat} {w : World} {r : Ac} (g : GH B w) (b : B ≤ w.heap.size) (hn : r.Num) : CallsR Tryd.prog 23 #[.pointer none, av r] w fun v w' => v = hv (Sp.aleaf r) ∧ Chg w w' [] :=
  (aleaf_calls B (fun _ => False) _ none r w g b hn rfl (fun _ h => h.elim) (by simp [TS.len])).mono fun _ _ ⟨e, _, p⟩ => ⟨e, p.chg⟩
end Go.Proofs.YtmmijecookbajaaDoor
namespace Go.Proofs.YtmmijecookbajaaDoor
open Go Go.RowKit

/-- What a proof says stands there. -/
def Sp.topA (l : List Ac) : Ac := match l with
  | [] => Sp.zeroA
  | a :: _ => a
theorem pfC_one {th : Bool} {r : Ac} {s : Value} (hs : s.oneCell' = true) : ∀ u ∈ pfC th r s, u.oneCell' = true := by
  intro u hu
  simp only [pfC, List.mem_cons, List.mem_append, List.not_mem_nil, or_false] at hu
  rcases hu with rfl | hu | rfl
  · rfl
  · exact Ac.one _ u hu
  · exact hs
set_option maxHeartbeats 2000000 in
theorem prove_calls (B : Nat) (id : Nm) (l : List Ac) (a : Option Addr) (n c : Nat) (w : World) (hG0 : GH B w) (hBw : B ≤ w.heap.size) (hid : NOk id) (hw : Wf 0 l) (hR : AcR w a n c l) (hn : n ≤ 1000) :
    CallsR Tryd.prog 16 #[.pointer none, nv id, .slice a n c] w fun v w' => ∃ s, v = pfv (decide (Sp.aend id 0 l ≠ [])) (Sp.topA (Sp.aend id 0 l)) s ∧ w'.ownsRow w.heap.size 26 32 s (Sp.apath id 0 l).length (natsC .u8 (Sp.apath id 0 l).flatten) ∧ Chg w w' [] := by
  have hX : Chg w w [] := Chg.refl _ _
  have hG := hG0
  have hlt0 : 0 < n → ∀ p, a = some p → p.block < w.heap.size := hR.lt
  refine f_enter (l := [.pointer none, nv id, .slice a n c]) Tryd.func16 rfl rfl rfl rfl ?_
  intro Qf hnrm hret
  refine c_seqreg (fun K1 hK1 => ?_)
  refine s_box rfl rfl rfl ?_
  intro b4 w00 e0_0 z0_0 hb4 X0_0
  have s0_0_hX := hX.size
  replace hG := hG.keep X0_0 (by simp)
  replace hX : Chg w _ [] := (hX.trans X0_0).mono (by intro k hk hlt; simp at hk ⊢ <;> first | omega | grind)
  replace hR := hR.keep0 X0_0
  replace hb4 : Blk w00 b4 (numC id) 24 := hb4
  refine s_alloc ty33 rfl rfl ?_
  intro b6 w01 e0_1 z0_1 hb6 X0_1
  have s0_1_hX := hX.size
  have s0_1_hb4 := hb4.lt
  replace hG := hG.keep X0_1 (by simp)
  replace hX : Chg w _ [] := (hX.trans X0_1).mono (by intro k hk hlt; simp at hk ⊢ <;> first | omega | grind)
  replace hR := hR.keep0 X0_1
  replace hb4 := hb4.keep X0_1 (by simp)
  replace hb6 : Blk w01 b6 (pfC false Sp.zeroA (.slice none 0 0)) 33 := hb6
  refine s_nil ?_
  refine hK1 _ _ ?_
  refine c_seqreg (fun K4 hK4 => ?_)
  refine s_alloc ty33 rfl rfl ?_
  intro b7 w1 e1_0 z1_0 hb7 X1_0
  have s1_0_hX := hX.size
  have s1_0_hb4 := hb4.lt
  have s1_0_hb6 := hb6.lt
  replace hG := hG.keep X1_0 (by simp)
  replace hX : Chg w _ [] := (hX.trans X1_0).mono (by intro k hk hlt; simp at hk ⊢ <;> first | omega | grind)
  replace hR := hR.keep0 X1_0
  replace hb4 := hb4.keep X1_0 (by simp)
  replace hb6 := hb6.keep X1_0 (by simp)
  replace hb7 : Blk w1 b7 (pfC false Sp.zeroA (.slice none 0 0)) 33 := hb7
  refine s_nil ?_
  have hl4 := hb4.lt
  have hl6 := hb6.lt
  have hl7 := hb7.lt
  obtain ⟨hk, hhk⟩ : ∃ k, k = w1.heap.size := ⟨_, rfl⟩
  have hown : w1.ownsRow hk 26 32 (.slice none 0 0) 0 (natsC .u8 ([] : List (List Nat)).flatten) := World.ownsRow_nil _ _ _ _
  have hzX1 := hX.size
  have hR0 := hR
  refine hK4 _ _ ?_
  refine c_seq (fun K6 hK6 => ?_)
  refine c_seqreg (fun K7 hK7 => ?_)
  refine s_val rfl rfl (runs_assign rfl) ?_
  refine s_nil ?_
  refine hK7 _ _ ?_
  refine c_block ?_
  refine c_loop (σ := Nat × Option Addr × Nat × Nat) (fun s => [(8, .int .i64 (s.1 : Int)), (2, .slice s.2.1 s.2.2.1 s.2.2.2), (0, .pointer none), (4, .pointer (some ⟨b4, 0, none⟩)), (7, .pointer (some ⟨b7, 0, none⟩)), (6, .pointer (some ⟨b6, 0, none⟩))]) (fun s W => ∃ l' v pre, Wf s.1 l' ∧ AcR W s.2.1 s.2.2.1 s.2.2.2 l' ∧ s.2.2.1 ≤ 1000 ∧ (0 < s.2.2.1 → ∀ p, s.2.1 = some p → p.block < w.heap.size) ∧ Sp.apath id 0 l = pre ++ Sp.apath id s.1 l' ∧ Sp.aend id 0 l = Sp.aend id s.1 l' ∧ (∀ x ∈ pre, HOk x) ∧ pre.length = s.1 ∧ W.ownsRow hk 26 32 v pre.length (natsC .u8 pre.flatten) ∧ Blk W b7 (pfC false Sp.zeroA v) 33 ∧ Blk W b4 (numC id) 24 ∧ Blk W b6 (pfC false Sp.zeroA (.slice none 0 0)) 33 ∧ GH B W ∧ Chg w W [] ∧ hk ≤ W.heap.size) (fun s => 128 - s.1) (0, a, n, c) ⟨rfl, rfl, rfl, rfl, rfl, rfl, trivial⟩ ⟨l, _, [], hw, hR, hn, hlt0, rfl, rfl, by simp, rfl, hown, hb7, hb4, hb6, hG, hX, by omega⟩ ?_
  rintro ⟨k, a, n, c⟩ wi ⟨l', v, pre, hwf, hR, hn, hab, hpa, hen, hpo, hpl, hown, hb7, hb4, hb6, hG, hX, hzk⟩
  dsimp only at hwf hR hn hab hpa hen hpl hown ⊢
  have hzX := hX.size
  have hlen := hR.len
  have hk128 := hwf.k_le
  refine c_seq (fun K8 hK8 => ?_)
  refine c_seqreg (fun K9 hK9 => ?_)
  refine s_val rfl rfl (runs_move rfl) ?_
  refine s_val rfl rfl (runs_len_slice Tryd.underlying38 rfl) ?_
  refine s_val rfl rfl (runs_gt rfl rfl) ?_
  refine s_nil ?_
  refine hK9 _ _ ?_
  refine c_dec rfl (fun hgt => ?_) (fun hgt => ?_)
  · have hklt := hwf.lt (by omega)
    have hbl := bit_lt id k
    have hab' := hab (by omega)
    refine c_skip ?_
    refine hK8 _ _ ?_
    refine c_seq (fun K10 hK10 => ?_)
    refine c_block ?_
    refine c_seqreg (fun K11 hK11 => ?_)
    refine s_val rfl rfl (runs_loadAgg ty24 rfl hb4.at (numC_len _)) ?_
    refine s_val rfl rfl (runs_move rfl) ?_
    refine s_callf (xs := [.tmp 15, .tmp 16]) rfl rfl Tryd.func13 rfl (by kernel_rfl) rfl (bit_calls id k _ hid (by omega)) ?_
    rintro _ w52 ⟨rfl, X5_2⟩
    replace hG := hG.keep X5_2 (by simp)
    replace hX : Chg w _ [] := (hX.trans X5_2).mono (by intro k hk hlt; simp at hk ⊢ <;> first | omega | grind)
    replace hb4 := hb4.keep X5_2 (by simp)
    replace hb6 := hb6.keep X5_2 (by simp)
    replace hb7 := hb7.keep X5_2 (by simp)
    replace hown := own_keep hown X5_2 (by simp)
    replace hR := hR.keep0 X5_2
    have zs5_2 := X5_2.size
    refine s_val rfl rfl (runs_assign rfl) ?_
    refine s_nil ?_
    have hzX5 := hX.size
    have hl7 := hb7.lt
    have hl4 := hb4.lt
    have hl6 := hb6.lt
    refine hK11 _ _ ?_
    refine c_seqdraw [14] (v.ownBlock.toList) (by kernel_rfl) ?_
    intro K13 hK13 wd6 Xd6 hS6
    replace hG := hG.keep Xd6 (by simp)
    replace hX : Chg w _ [] := (hX.trans Xd6).mono (by intro k hk hlt; simp at hk ⊢ <;> first | omega | grind)
    replace hb4 := hb4.keep Xd6 (by simp)
    replace hb6 := hb6.keep Xd6 (by simp)
    replace hb7 := hb7.keep Xd6 (by simp)
    replace hown := own_keep hown Xd6 (by simp)
    replace hR := hR.keep0 Xd6
    have zd6 := Xd6.size
    have hdo : b7 ∉ v.ownBlock.toList := (fun hm => by have := (hown.lt _ (by simpa using hm)).1; omega)
    refine d_take 0 18 rfl (by kernel_rfl) rfl hS6 (fun wS hS => runs_fieldAddr Tryd.underlying33 rfl ty31 (by decide) rfl) ?_
    refine d_take 1 19 rfl (by kernel_rfl) rfl hS6 (fun wS hS => runs_load1 ty31 rfl ((hb7.keep hS hdo).cell (o := 47) rfl)) ?_
    refine d_take 2 20 rfl (by kernel_rfl) rfl hS6 (fun wS hS => runs_move rfl) ?_
    refine d_take 3 21 rfl (by kernel_rfl) rfl hS6 (fun wS hS => runs_move rfl) ?_
    refine d_take 4 22 rfl (by kernel_rfl) rfl hS6 (fun wS hS => runs_as (v' := .int .i64 ((k + 1 : Nat) : Int)) (runs_add64 rfl rfl (by omega)) (congrArg (Value.int .i64) (by omega))) ?_
    refine d_take 5 23 rfl (by kernel_rfl) rfl hS6 (fun wS hS => runs_move rfl) ?_
    refine d_take 6 24 rfl (by kernel_rfl) rfl hS6 (fun wS hS => runs_move rfl) ?_
    refine d_take 7 25 rfl (by kernel_rfl) rfl hS6 (fun wS hS => runs_as (v' := .int .i64 ((1 - Sp.bit id k : Nat) : Int)) (runs_sub64 rfl rfl (by omega)) (congrArg (Value.int .i64) (by omega))) ?_
    refine d_take 8 26 rfl (by kernel_rfl) rfl hS6 (fun wS hS => runs_move rfl) ?_
    refine d_only 9 rfl (by kernel_rfl) ?_
    refine s_callf (xs := [.tmp 23, .tmp 25, .tmp 26]) rfl rfl Tryd.func26 rfl (by kernel_rfl) rfl (part_calls l' a n c k (1 - Sp.bit id k) _ hR (by omega) (by omega) (by omega)) ?_
    rintro _ w69 ⟨a2, n2, c2, rfl, hR2, hn2, _, X6_9⟩
    replace hG := hG.keep X6_9 (by simp)
    replace hX : Chg w _ [] := (hX.trans X6_9).mono (by intro k hk hlt; simp at hk ⊢ <;> first | omega | grind)
    replace hb4 := hb4.keep X6_9 (by simp)
    replace hb6 := hb6.keep X6_9 (by simp)
    replace hb7 := hb7.keep X6_9 (by simp)
    replace hown := own_keep hown X6_9 (by simp)
    replace hR := hR.keep0 X6_9
    have zs6_9 := X6_9.size
    replace hS6 : Chg wd6 _ v.ownBlock.toList := (hS6.trans X6_9).mono (by intro k hk _; simpa using hk)
    refine s_nil ⟨.inr hS6, ?_⟩
    refine d_only 10 rfl (by kernel_rfl) ?_
    refine s_callf (xs := [.tmp 20, .tmp 22, .tmp 27]) rfl rfl Tryd.func15 rfl (by kernel_rfl) rfl (aroot0 hG (by omega) (hwf.side hklt) hR2 (by omega)) ?_
    rintro _ w610 ⟨rfl, X6_10⟩
    replace hG := hG.keep X6_10 (by simp)
    replace hX : Chg w _ [] := (hX.trans X6_10).mono (by intro k hk hlt; simp at hk ⊢ <;> first | omega | grind)
    replace hb4 := hb4.keep X6_10 (by simp)
    replace hb6 := hb6.keep X6_10 (by simp)
    replace hb7 := hb7.keep X6_10 (by simp)
    replace hown := own_keep hown X6_10 (by simp)
    replace hR := hR.keep0 X6_10
    have zs6_10 := X6_10.size
    replace hS6 : Chg wd6 _ v.ownBlock.toList := (hS6.trans X6_10).mono (by intro k hk _; simpa using hk)
    refine s_nil ⟨.inr hS6, ?_⟩
    refine d_only 11 rfl (by kernel_rfl) ?_
    refine s_lit (xs := [.tmp 28]) Tryd.underlying31 ty26 rfl rfl rfl rfl rfl (hv_sz (l := [Sp.aroot (k + 1) (Sp.side l' k (1 - Sp.bit id k))]) (by simpa using aroot_ok _ _)) (by decide) (by decide) ?_
    intro b11 w611 e6_11 z6_11 hb11 X6_11
    have s6_11_hX := hX.size
    have s6_11_hb4 := hb4.lt
    have s6_11_hb6 := hb6.lt
    have s6_11_hb7 := hb7.lt
    replace hG := hG.keep X6_11 (by simp)
    replace hX : Chg w _ [] := (hX.trans X6_11).mono (by intro k hk hlt; simp at hk ⊢ <;> first | omega | grind)
    replace hb4 := hb4.keep X6_11 (by simp)
    replace hb6 := hb6.keep X6_11 (by simp)
    replace hb7 := hb7.keep X6_11 (by simp)
    replace hown := own_keep hown X6_11 (by simp)
    replace hR := hR.keep0 X6_11
    replace hS6 : Chg wd6 _ v.ownBlock.toList := (hS6.trans X6_11).mono (by intro k hk _; simpa using hk)
    refine s_nil ⟨.inr hS6, ?_⟩
    refine d_only 12 rfl (by kernel_rfl) ?_
    refine s_append Tryd.underlying31 ty26 rfl (by decide) rfl rfl rfl hown rfl (hs_lit [Sp.aroot (k + 1) (Sp.side l' k (1 - Sp.bit id k))] hb11 (by simpa using aroot_ok _ _) rfl).rd (natsC_one _ _) (by simp only [maxLen]; omega) (by omega) (by omega) ?_
    intro v12 w612 H6_12 X6_12 F6_12
    replace hG := hG.keep X6_12 (fun k hm => by have := (hown.lt k (by simpa using hm)).1; omega)
    replace hX : Chg w _ [] := (hX.trans X6_12).mono (by intro k hk hlt; simp at hk; have := (hown.lt k hk).1; omega)
    replace hb4 := hb4.keep X6_12 (fun hm => by have := (hown.lt _ (by simpa using hm)).1; omega)
    replace hb6 := hb6.keep X6_12 (fun hm => by have := (hown.lt _ (by simpa using hm)).1; omega)
    replace hb7 := hb7.keep X6_12 (fun hm => by have := (hown.lt _ (by simpa using hm)).1; omega)
    replace hR := hR.keep X6_12 (fun p hp hm => by have := (hown.lt _ (by simpa using hm)).1; have := hab' p hp; omega)
    have hown := H6_12
    have hzs12 := X6_12.size
    replace hS6 : Chg wd6 _ v.ownBlock.toList := (hS6.trans X6_12).mono (by intro k hk _; simpa using hk)
    refine s_nil ⟨.inr hS6, ?_⟩
    refine d_take 13 31 rfl (by kernel_rfl) rfl hS6 (fun wS hS => runs_fieldAddr Tryd.underlying33 rfl ty31 (by decide) rfl) ?_
    refine d_only 14 rfl (by kernel_rfl) ?_
    refine s_store1 ty31 rfl rfl rfl hb7 (own_one hown) (by show 47 < (pfC false Sp.zeroA v).length; rw [pfC_len zeroA_num]; decide) ?_
    intro w614 z6_14 h6_14 X6_14
    replace hG := hG.keep X6_14 (by simp; omega)
    replace hX : Chg w _ [] := (hX.trans X6_14).mono (by intro k hk hlt; simp at hk ⊢ <;> first | omega | grind)
    replace hb4 := hb4.keep X6_14 (by simp; omega)
    replace hb6 := hb6.keep X6_14 (by simp; omega)
    replace hR := hR.keep X6_14 (fun p hp => by have := hab' p hp; simp; omega)
    replace hown := own_keep hown X6_14 (fun k hk hm => by have := (hown.lt k hk).1; simp at hm; omega)
    replace hb7 := h6_14
    refine s_nil ⟨.inl rfl, ?_⟩
    refine d_done (by kernel_rfl) ?_
    replace hb7 : Blk w614 b7 (pfC false Sp.zeroA v12) 33 := hb7
    replace hown : w614.ownsRow hk 26 32 v12 (pre ++ [Sp.aroot (k + 1) (Sp.side l' k (1 - Sp.bit id k))]).length (natsC .u8 (pre ++ [Sp.aroot (k + 1) (Sp.side l' k (1 - Sp.bit id k))]).flatten) := by
      simpa [List.flatten_append, natsC_append] using hown
    have hzX6 := hX.size
    refine hK13 _ _ ?_
    refine c_reg ?_
    refine s_val rfl rfl (runs_move rfl) ?_
    refine s_val rfl rfl (runs_move rfl) ?_
    refine s_val rfl rfl (runs_move rfl) ?_
    refine s_callf (xs := [.tmp 32, .tmp 33, .tmp 34]) rfl rfl Tryd.func26 rfl (by kernel_rfl) rfl (part_calls l' a n c k (Sp.bit id k) _ hR (by omega) (by omega) hbl) ?_
    rintro _ w73 ⟨a3, n3, c3, rfl, hR3, hn3, hab3, X7_3⟩
    replace hG := hG.keep X7_3 (by simp)
    replace hX : Chg w _ [] := (hX.trans X7_3).mono (by intro k hk hlt; simp at hk ⊢ <;> first | omega | grind)
    replace hb4 := hb4.keep X7_3 (by simp)
    replace hb6 := hb6.keep X7_3 (by simp)
    replace hb7 := hb7.keep X7_3 (by simp)
    replace hown := own_keep hown X7_3 (by simp)
    have zs7_3 := X7_3.size
    have hz73 := X7_3.size
    refine s_val rfl rfl (runs_assign rfl) ?_
    refine s_nil ?_
    refine hK10 _ _ ?_
    refine c_reg ?_
    refine s_val rfl rfl (runs_move rfl) ?_
    refine s_val rfl rfl (runs_add64 rfl rfl (by omega)) ?_
    refine s_val rfl rfl (runs_assign rfl) ?_
    refine s_nil ?_
    dsimp only [Post.setN]
    exact ⟨(k + 1, a3, n3, c3), ⟨rfl, rfl, rfl, rfl, rfl, rfl, trivial⟩, ⟨Sp.side l' k (Sp.bit id k), v12, pre ++ [Sp.aroot (k + 1) (Sp.side l' k (1 - Sp.bit id k))], hwf.side hklt, hR3, by dsimp only; omega, fun _ p hp => by
      obtain ⟨q, hq, e⟩ := hab3 p hp
      have := hab' q hq; omega, by rw [hpa, apath_two hklt (by omega)]; simp, by rw [hen, aend_two hklt (by omega)], fun x hx => by
      rcases List.mem_append.1 hx with hx | hx
      · exact hpo x hx
      · simp at hx; subst hx; exact aroot_ok _ _, by simp [hpl], hown, hb7, hb4, hb6, hG, hX, by omega⟩, by dsimp only; omega⟩
  · have hle : l'.length ≤ 1 := by omega
    rw [apath_few hle, List.append_nil] at hpa
    rw [aend_few hle] at hen
    have hl7 := hb7.lt
    have hl4 := hb4.lt
    have hl6 := hb6.lt
    refine c_exit ?_
    refine hK6 _ _ ?_
    refine c_seq (fun K20 hK20 => ?_)
    refine c_seqreg (fun K21 hK21 => ?_)
    refine s_val rfl rfl (runs_move rfl) ?_
    refine s_val rfl rfl (runs_len_slice Tryd.underlying38 rfl) ?_
    refine s_val rfl rfl (runs_eqd rfl rfl) ?_
    refine s_nil ?_
    refine hK21 _ _ ?_
    refine c_dec rfl (fun h1 => ?_) (fun h1 => ?_)
    · obtain ⟨x, rfl⟩ : ∃ x, l' = [x] := by
        match l', hlen with
        | [x], _ => exact ⟨x, rfl⟩
        | [], e => simp at e; omega
        | _ :: _ :: _, e => simp at e; omega
      have hxn := hwf.num x (by simp)
      obtain ⟨ba, oa, rfl⟩ := hR.rd.some_ (by omega)
      have hba := hab (by omega) _ rfl
      simp only at hba
      refine c_drawX [6] ([b7]) (by kernel_rfl) ?_
      intro wd9 Xd9 hS9
      replace hG := hG.keep Xd9 (by simp)
      replace hX : Chg w _ [] := (hX.trans Xd9).mono (by intro k hk hlt; simp at hk ⊢ <;> first | omega | grind)
      replace hb4 := hb4.keep Xd9 (by simp)
      replace hb6 := hb6.keep Xd9 (by simp)
      replace hb7 := hb7.keep Xd9 (by simp)
      replace hown := own_keep hown Xd9 (by simp)
      replace hR := hR.keep0 Xd9
      have zd9 := Xd9.size
      refine d_take 0 39 rfl (by kernel_rfl) rfl hS9 (fun wS hS => runs_move rfl) ?_
      refine d_take 1 40 rfl (by kernel_rfl) rfl hS9 (fun wS hS => runs_index_slice (0) Tryd.underlying38 ty28 rfl rfl (by omega) (by omega)) ?_
      refine d_take 2 41 rfl (by kernel_rfl) rfl hS9 (fun wS hS => runs_loadAgg ty28 rfl ((hR.keep hS (fun p hp => by cases hp; simp; omega)).elem (i := 0) rfl) (Ac.len hxn)) ?_
      refine d_take 3 42 rfl (by kernel_rfl) rfl hS9 (fun wS hS => runs_fieldAddr Tryd.underlying33 rfl ty4 (by decide) rfl) ?_
      refine d_only 4 rfl (by kernel_rfl) ?_
      refine s_store1 ty4 rfl rfl rfl hb7 (by rfl) (by simp [pfC]) ?_
      intro w94 z9_4 h9_4 X9_4
      replace hb7 := h9_4
      replace hS9 : Chg wd9 _ ([b7]) := (hS9.trans X9_4).mono (by intro k hk hlt; simp at hk ⊢ <;> first | assumption | omega)
      refine s_nil ⟨.inr hS9, ?_⟩
      refine d_take 5 43 rfl (by kernel_rfl) rfl hS9 (fun wS hS => runs_fieldAddr Tryd.underlying33 rfl ty28 (by decide) rfl) ?_
      refine d_only 6 rfl (by kernel_rfl) ?_
      replace hG := hG.keep hS9 (by simp; omega)
      replace hX : Chg w _ [] := (hX.trans hS9).mono (by intro k hk hlt; simp at hk ⊢ <;> first | omega | grind)
      replace hb4 := hb4.keep hS9 (by simp; omega)
      replace hb6 := hb6.keep hS9 (by simp; omega)
      replace hown := own_keep hown hS9 (fun k hk hm => by have := (hown.lt k hk).1; simp at hm; omega)
      replace hR := hR.keep hS9 (fun p hp => by cases hp; simp; omega)
      refine s_store ty28 rfl rfl rfl hb7 (Ac.len hxn) (by show 1 + 46 ≤ ((pfC false Sp.zeroA v).set 0 (.bool true)).length; rw [List.length_set, pfC_len zeroA_num]; decide) (Ac.one _) ?_
      intro w96 z9_6 h9_6 X9_6
      replace hG := hG.keep X9_6 (by simp; omega)
      replace hX : Chg w _ [] := (hX.trans X9_6).mono (by intro k hk hlt; simp at hk ⊢ <;> first | omega | grind)
      replace hb4 := hb4.keep X9_6 (by simp; omega)
      replace hb6 := hb6.keep X9_6 (by simp; omega)
      replace hown := own_keep hown X9_6 (fun k hk hm => by have := (hown.lt k hk).1; simp at hm; omega)
      replace hR := hR.keep X9_6 (fun p hp => by cases hp; simp; omega)
      replace hb7 := h9_6
      refine s_nil ⟨.inl rfl, ?_⟩
      refine d_done (by kernel_rfl) ?_
      replace hb7 : Blk w96 b7 (pfC true x v) 33 := hb7
      refine hK20 _ _ ?_
      refine c_seqreg (fun K24 hK24 => ?_)
      refine s_val rfl rfl (runs_loadAgg ty33 rfl hb7.at (pfC_len (by first | exact hxn | exact zeroA_num))) ?_
      refine s_storeAll ty33 rfl rfl rfl hb6 (pfC_len (by first | exact hxn | exact zeroA_num)) rfl (pfC_one (own_one hown)) ?_
      intro w101 z10_1 h10_1 X10_1
      replace hG := hG.keep X10_1 (by simp; omega)
      replace hX : Chg w _ [] := (hX.trans X10_1).mono (by intro k hk hlt; simp at hk ⊢ <;> first | omega | grind)
      replace hb4 := hb4.keep X10_1 (by simp; omega)
      replace hown := own_keep hown X10_1 (fun k hk hm => by have := (hown.lt k hk).1; simp at hm; omega)
      replace hb7 := hb7.keep X10_1 (by simp; omega)
      replace hb6 := h10_1
      refine s_nil ?_
      refine hK24 _ _ ?_
      refine c_ret ?_
      refine hret _ _ ?_
      refine ends1 (reads_cell ty33 rfl hb6.at (pfC_len (by first | exact hxn | exact zeroA_num))) ⟨v, ?_, ?_, hX⟩
      · rw [hen]; rfl
      · rw [hpa]; exact own_base hown (by omega)
    · obtain rfl : l' = [] := List.eq_nil_of_length_eq_zero (by omega)
      refine c_skip ?_
      refine hK20 _ _ ?_
      refine c_seqreg (fun K26 hK26 => ?_)
      refine s_val rfl rfl (runs_loadAgg ty33 rfl hb7.at (pfC_len (by first | exact hxn | exact zeroA_num))) ?_
      refine s_storeAll ty33 rfl rfl rfl hb6 (pfC_len (by first | exact hxn | exact zeroA_num)) rfl (pfC_one (own_one hown)) ?_
      intro w101 z10_1 h10_1 X10_1
      replace hG := hG.keep X10_1 (by simp; omega)
      replace hX : Chg w _ [] := (hX.trans X10_1).mono (by intro k hk hlt; simp at hk ⊢ <;> first | omega | grind)
      replace hb4 := hb4.keep X10_1 (by simp; omega)
      replace hb7 := hb7.keep X10_1 (by simp; omega)
      replace hown := own_keep hown X10_1 (fun k hk hm => by have := (hown.lt k hk).1; simp at hm; omega)
      replace hb6 := h10_1
      refine s_nil ?_
      refine hK26 _ _ ?_
      refine c_ret ?_
      refine hret _ _ ?_
      refine ends1 (reads_cell ty33 rfl hb6.at (pfC_len (by first | exact hxn | exact zeroA_num))) ⟨v, ?_, ?_, hX⟩
      · rw [hen]; rfl
      · rw [hpa]; exact own_base hown (by omega)
end Go.Proofs.YtmmijecookbajaaDoor
namespace Go.Proofs.YtmmijecookbajaaDoor
open Go Go.RowKit

/-- Does one of the first n bits part? -/
def Sp.stray (x y : Nm) (n : Nat) : Bool := (List.range n).any fun i => decide (Sp.bit x i ≠ Sp.bit y i)
theorem stray_false {x y : Nm} {n : Nat} (h : ∀ i, i < n → Sp.bit x i = Sp.bit y i) : Sp.stray x y n = false := by
  unfold Sp.stray
  rw [List.any_eq_false]
  intro i hi
  simp [h i (List.mem_range.1 hi)]
theorem stray_true {x y : Nm} {n i : Nat} (hi : i < n) (h : Sp.bit x i ≠ Sp.bit y i) : Sp.stray x y n = true := by
  unfold Sp.stray
  rw [List.any_eq_true]
  exact ⟨i, List.mem_range.2 hi, by simp [h]⟩
/-- What Climb answers, and what it notes. -/
def Sp.aclimbR (id : Nm) (th : Bool) (r : Ac) (path : List (List Nat)) : List Nat × Bool :=
  if 128 < path.length then (Sp.zero32, false)
  else if th then (if Sp.stray r.id id path.length then (Sp.zero32, false) else (Sp.aclimb id 0 path (Sp.aleaf r), true))
  else if r ≠ Sp.zeroA then (Sp.zero32, false) else (Sp.aclimb id 0 path Sp.anone, true)
def Sp.aclimbRN (id : Nm) (th : Bool) (r : Ac) (path : List (List Nat)) : List (List Nat) :=
  if 128 < path.length then []
  else if th then (if Sp.stray r.id id path.length then [[4], 2 :: Sp.acB r] else [[4], 2 :: Sp.acB r] ++ Sp.aclimbN id 0 path (Sp.aleaf r))
  else if r ≠ Sp.zeroA then [[4]] else [[4]] ++ Sp.aclimbN id 0 path Sp.anone
theorem aclimb_snoc (id : Nm) (p h : List Nat) : ∀ (ps : List (List Nat)) (k : Nat), Sp.aclimb id k (ps ++ [p]) h = Sp.aclimb id k ps (if Sp.bit id (k + ps.length) = 1 then Sp.fork p h else Sp.fork h p) := by
  intro ps
  induction ps with
  | nil => intro k; simp [Sp.aclimb]
  | cons q ps ih => intro k; simp only [List.cons_append, Sp.aclimb, ih (k + 1), List.length_cons, show k + 1 + ps.length = k + (ps.length + 1) by omega]
theorem aclimb_drop (id : Nm) (h : List Nat) {path : List (List Nat)} {i : Nat} {p : List Nat} (hp : path[i]? = some p) : Sp.aclimb id i (path.drop i) h = if Sp.bit id i = 1 then Sp.fork p (Sp.aclimb id (i + 1) (path.drop (i + 1)) h) else Sp.fork (Sp.aclimb id (i + 1) (path.drop (i + 1)) h) p := by
  have hi := (List.getElem?_eq_some_iff.1 hp).1
  have e : path[i] = p := by rw [List.getElem?_eq_getElem hi] at hp; exact Option.some.inj hp
  rw [List.drop_eq_getElem_cons hi, e]; rfl
theorem aclimbN_drop (id : Nm) (h : List Nat) {path : List (List Nat)} {i : Nat} {p : List Nat} (hp : path[i]? = some p) : Sp.aclimbN id i (path.drop i) h = Sp.aclimbN id (i + 1) (path.drop (i + 1)) h ++ [3 :: (if Sp.bit id i = 1 then p ++ Sp.aclimb id (i + 1) (path.drop (i + 1)) h else Sp.aclimb id (i + 1) (path.drop (i + 1)) h ++ p)] := by
  have hi := (List.getElem?_eq_some_iff.1 hp).1
  have e : path[i] = p := by rw [List.getElem?_eq_getElem hi] at hp; exact Option.some.inj hp
  rw [List.drop_eq_getElem_cons hi, e]; rfl
end Go.Proofs.YtmmijecookbajaaDoor
