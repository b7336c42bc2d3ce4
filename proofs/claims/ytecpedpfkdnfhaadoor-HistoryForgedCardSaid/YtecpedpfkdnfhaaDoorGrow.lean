/- history.growth and Growth answer as the specification says. Conditions: none beyond those in the theorems. By an AI agent. -/
import Derived.Test.YtecpedpfkdnfhaaDoorClimb
import Derived.Test.YtecpedpfkdnfhaaDoorSp5
namespace Go.Proofs.YtecpedpfkdnfhaaDoor
open Go Go.RowKit

theorem growth_ok : ∀ (k : Nat) (whole : Bool) (m : Nat) (l : List (List Nat)), l.length ≤ k → 0 < m → m ≤ l.length → (∀ x ∈ l, HOk x) → ∀ x ∈ Sp.growth whole m l, HOk x := by
  intro k
  induction k with
  | zero => intro whole m l h h0 hm; omega
  | succ k ih =>
    intro whole m l h h0 hm hok x hx
    by_cases h1 : m = l.length
    · subst h1
      rw [Sp.growth_all] at hx
      cases whole <;> simp at hx
      subst hx; exact root_ok _ _ (Nat.le_refl _) hok
    have hk0 := Sp.split_pos l.length
    have hk1 := Sp.split_lt (n := l.length) (by omega)
    have o1 : ∀ x ∈ l.take (Sp.split l.length), HOk x := fun x hx => hok x (List.mem_of_mem_take hx)
    have o2 : ∀ x ∈ l.drop (Sp.split l.length), HOk x := fun x hx => hok x (List.mem_of_mem_drop hx)
    by_cases hk : m ≤ Sp.split l.length
    · rw [Sp.growth_lo _ _ _ h0 (by omega) hk] at hx
      rcases List.mem_append.1 hx with hx | hx
      · exact ih _ _ _ (by rw [List.length_take]; omega) h0 (by rw [List.length_take]; omega) o1 x hx
      · simp at hx; subst hx; exact root_ok _ _ (Nat.le_refl _) o2
    · rw [Sp.growth_hi _ _ _ (by omega) hk] at hx
      rcases List.mem_append.1 hx with hx | hx
      · exact ih _ _ _ (by rw [List.length_drop]; omega) (by omega) (by rw [List.length_drop]; omega) o2 x hx
      · simp at hx; subst hx; exact root_ok _ _ (Nat.le_refl _) o1
/-- A literal of hashes, owned. -/
theorem own_lit {w : World} {B b m : Nat} (l : List (List Nat)) {t : TypeId} (h : Blk w b (flatC (l.map hv)) t) (ok : ∀ x ∈ l, HOk x) (hl : l.length = m) (hb : B ≤ b) (hm : m ≤ maxLen := by simp [maxLen]) : w.ownsRow B t 32 (.slice (some ⟨b, 0, none⟩) m m) m (natsC .u8 l.flatten) := by
  have e : (natsC .u8 l.flatten).length = m * 32 := by rw [natsC_length, flat32 ok, hl]
  rw [flat_hv] at h
  refine ⟨e, .inr ⟨b, m, (natsC .u8 l.flatten).toArray, rfl, hb, h, Nat.le_refl _, hm, by simpa using e, ?_⟩⟩
  rw [List.take_of_length_le (by simp [e])]

set_option maxHeartbeats 1000000 in
theorem growth_calls (k : Nat) : ∀ (hs : List (List Nat)), hs.length ≤ k → ∀ (B : Nat) (whole : Bool) (m : Nat) (a : Option Addr) (n c : Nat) (w : World), GH B w → B ≤ w.heap.size → HsR w a n c hs → n ≤ 1048576 → 0 < m → m ≤ n →
    CallsR Tryd.prog 29 #[.pointer none, .int .i64 (m : Int), .bool whole, .slice a n c] w fun v w' =>
      w'.ownsRow w.heap.size 28 32 v (Sp.growth whole m hs).length (natsC .u8 (Sp.growth whole m hs).flatten) ∧ Chg w w' [] := by
  induction k with
  | zero => intro hs hm B whole m a n c w _ _ hH _ h0 h1; have := hH.len; omega
  | succ k ih =>
    intro hs hm B whole m a n c w hG hBw hH hn h0 hmn
    have hlen := hH.len
    have hX : Chg w w [] := Chg.refl _ _
    refine f_enter (l := [.pointer none, .int .i64 (m : Int), .bool whole, .slice a n c]) Tryd.func29 rfl rfl rfl rfl ?_
    intro Qf hnrm hret
    refine c_seqreg (fun K1 hK1 => ?_)
    refine s_val rfl rfl (runs_assign rfl) ?_
    refine s_nil ?_
    refine hK1 _ _ ?_
    refine c_seq (fun K2 hK2 => ?_)
    refine c_seqreg (fun K3 hK3 => ?_)
    refine s_val rfl rfl (runs_move rfl) ?_
    refine s_val rfl rfl (runs_move rfl) ?_
    refine s_val rfl rfl (runs_len_slice Tryd.underlying25 rfl) ?_
    refine s_val rfl rfl (runs_eqd rfl rfl) ?_
    refine s_nil ?_
    refine hK3 _ _ ?_
    refine c_dec rfl (fun hmn' => ?_) (fun hmn' => ?_)
    · obtain rfl : m = n := by omega
      refine c_seq (fun K4 hK4 => ?_)
      refine c_seqreg (fun K5 hK5 => ?_)
      refine s_val rfl rfl (runs_move rfl) ?_
      refine s_nil ?_
      refine hK5 _ _ ?_
      refine c_if rfl (fun hwh => ?_) (fun hwh => ?_)
      · refine c_seqreg (fun K6 hK6 => ?_)
        refine s_val rfl rfl (runs_assign rfl) ?_
        refine s_nil ?_
        refine hK6 _ _ ?_
        refine c_ret ?_
        refine hret _ _ ?_
        subst hwh
        exact ends1 (reads_tmp rfl) ⟨by rw [← hlen, Sp.growth_all]; exact World.ownsRow_nil _ _ _ _, hX⟩
      · have hro : HOk (Sp.root hs) := root_ok _ _ (Nat.le_refl _) hH.ok
        refine c_skip ?_
        refine hK4 _ _ ?_
        refine c_seqreg (fun K7 hK7 => ?_)
        refine s_val rfl rfl (runs_move rfl) ?_
        refine s_val rfl rfl (runs_move rfl) ?_
        refine s_callf (xs := [.tmp 15, .tmp 16]) rfl rfl Tryd.func15 rfl (by kernel_rfl) rfl (root0 hG (by omega) hH (by omega)) ?_
        rintro _ w4 ⟨rfl, X4_2⟩
        replace hG := hG.keep X4_2 (by simp)
        replace hH := hH.keep0 X4_2
        replace hX : Chg w _ [] := (hX.trans X4_2).mono (by intro k hk hlt; simp at hk ⊢ <;> first | omega | grind)
        have zs4_2 := X4_2.size
        have hz4 := X4_2.size
        refine s_lit (xs := [.tmp 17]) Tryd.underlying25 ty28 rfl rfl rfl rfl rfl (hv_sz (l := [Sp.root hs]) (by simpa using hro)) (by decide) (by decide) ?_
        intro b4 w5 e4_3 z4_3 hb4 X4_3
        have s4_3_hX := hX.size
        replace hG := hG.keep X4_3 (by simp)
        replace hH := hH.keep0 X4_3
        replace hX : Chg w _ [] := (hX.trans X4_3).mono (by intro k hk hlt; simp at hk ⊢ <;> first | omega | grind)
        refine s_val rfl rfl (runs_assign rfl) ?_
        refine s_nil ?_
        refine hK7 _ _ ?_
        refine c_ret ?_
        refine hret _ _ ?_
        subst hwh
        have hzX := hX.size
        exact ends1 (reads_tmp rfl) ⟨by rw [← hlen, Sp.growth_all]; exact own_lit [Sp.root hs] hb4 (by simpa using hro) rfl (by omega), hX⟩
    · refine c_skip ?_
      refine hK2 _ _ ?_
      refine c_seqreg (fun K10 hK10 => ?_)
      refine s_val rfl rfl (runs_move rfl) ?_
      refine s_val rfl rfl (runs_len_slice Tryd.underlying25 rfl) ?_
      refine s_callf (xs := [.tmp 20]) rfl rfl Tryd.func27 rfl (by kernel_rfl) rfl (split_calls n _ (by omega)) ?_
      rintro _ w5 ⟨rfl, X5_2⟩
      replace hG := hG.keep X5_2 (by simp)
      replace hH := hH.keep0 X5_2
      replace hX : Chg w _ [] := (hX.trans X5_2).mono (by intro k hk hlt; simp at hk ⊢ <;> first | omega | grind)
      have zs5_2 := X5_2.size
      have hz5 := X5_2.size
      refine s_val rfl rfl (runs_assign rfl) ?_
      refine s_nil ?_
      have h2 : 2 ≤ n := by omega
      have hk0 := Sp.split_pos n
      have hk1 := Sp.split_lt h2
      obtain ⟨s, hs'⟩ : ∃ s, s = Sp.split n := ⟨_, rfl⟩
      rw [← hs'] at hk0 hk1 ⊢
      have hcn := hH.rd.le
      have e1 : (hs.take s).length = s := by rw [List.length_take]; omega
      have e2 : (hs.drop s).length = n - s := by rw [List.length_drop]; omega
      have o1 : HOk (Sp.root (hs.take s)) := root_ok _ _ (Nat.le_refl _) (fun x hx => hH.ok x (List.mem_of_mem_take hx))
      have o2 : HOk (Sp.root (hs.drop s)) := root_ok _ _ (Nat.le_refl _) (fun x hx => hH.ok x (List.mem_of_mem_drop hx))
      refine hK10 _ _ ?_
      refine c_seq (fun K12 hK12 => ?_)
      refine c_seqreg (fun K13 hK13 => ?_)
      refine s_val rfl rfl (runs_move rfl) ?_
      refine s_val rfl rfl (runs_move rfl) ?_
      refine s_val rfl rfl (runs_le rfl rfl) ?_
      refine s_nil ?_
      refine hK13 _ _ ?_
      refine c_dec rfl (fun hms => ?_) (fun hms => ?_)
      · refine c_seqdraw [] ([]) (by kernel_rfl) ?_
        intro K14 hK14 wd7 Xd7 hS7
        replace hG := hG.keep Xd7 (by simp)
        replace hH := hH.keep0 Xd7
        replace hX : Chg w _ [] := (hX.trans Xd7).mono (by intro k hk hlt; simp at hk ⊢ <;> first | omega | grind)
        have zd7 := Xd7.size
        have hzd := Xd7.size
        have hzX := hX.size
        refine d_take 0 25 rfl (by kernel_rfl) rfl hS7 (fun wS hS => runs_move rfl) ?_
        refine d_take 1 26 rfl (by kernel_rfl) rfl hS7 (fun wS hS => runs_move rfl) ?_
        refine d_take 2 27 rfl (by kernel_rfl) rfl hS7 (fun wS hS => runs_move rfl) ?_
        refine d_take 3 28 rfl (by kernel_rfl) rfl hS7 (fun wS hS => runs_move rfl) ?_
        refine d_take 4 29 rfl (by kernel_rfl) rfl hS7 (fun wS hS => runs_move rfl) ?_
        refine d_take 5 30 rfl (by kernel_rfl) rfl hS7 (fun wS hS => runs_slice_to (s) Tryd.underlying25 ty28 rfl rfl (by omega) (by omega)) ?_
        refine d_take 7 32 rfl (by kernel_rfl) rfl hS7 (fun wS hS => runs_move rfl) ?_
        refine d_take 8 33 rfl (by kernel_rfl) rfl hS7 (fun wS hS => runs_move rfl) ?_
        refine d_take 9 34 rfl (by kernel_rfl) rfl hS7 (fun wS hS => runs_move rfl) ?_
        refine d_take 10 35 rfl (by kernel_rfl) rfl hS7 (fun wS hS => runs_slice_from (s) Tryd.underlying25 ty28 rfl rfl (by omega) (by omega)) ?_
        refine d_only 6 rfl (by kernel_rfl) ?_
        refine s_callf (xs := [.tmp 25, .tmp 26, .tmp 27, .tmp 30]) rfl rfl Tryd.func29 rfl (by kernel_rfl) rfl (ih (hs.take s) (by omega) B whole m _ _ _ _ hG (by omega) (hH.to_ s (by omega)) (by omega) (by omega) (by omega)) ?_
        rintro vg w7 ⟨hown, X7_6⟩
        have zs7_6 := X7_6.size
        have hzc := X7_6.size
        have hgl := Sp.growth_len whole m (hs.take s) (by omega) (by omega)
        replace hS7 : Chg wd7 _ [] := hS7.trans X7_6
        refine s_nil ⟨.inr hS7, ?_⟩
        refine d_only 11 rfl (by kernel_rfl) ?_
        refine s_callf (xs := [.tmp 32, .tmp 35]) rfl rfl Tryd.func15 rfl (by kernel_rfl) rfl (root0 (hG.keep hS7 (by simp)) (by have := hS7.size; omega) ((hH.keep0 hS7).from_ s (by omega)) (by omega)) ?_
        rintro _ w8 ⟨rfl, X7_11⟩
        replace hown := own_keep hown X7_11 (by simp)
        have zs7_11 := X7_11.size
        have hzr := X7_11.size
        replace hS7 : Chg wd7 _ [] := hS7.trans X7_11
        refine s_nil ⟨.inr hS7, ?_⟩
        refine d_only 12 rfl (by kernel_rfl) ?_
        refine s_lit (xs := [.tmp 36]) Tryd.underlying25 ty28 rfl rfl rfl rfl rfl (hv_sz (l := [Sp.root (hs.drop s)]) (by simpa using o2)) (by decide) (by decide) ?_
        intro b8 w86 e7_12 z7_12 hb8 X7_12
        replace hown := own_keep hown X7_12 (by simp)
        have hown0 := hown
        replace hS7 : Chg wd7 _ [] := hS7.trans X7_12
        refine s_nil ⟨.inr hS7, ?_⟩
        refine d_only 13 rfl (by kernel_rfl) ?_
        refine s_append Tryd.underlying25 ty28 rfl (by decide) rfl rfl rfl hown rfl (hs_lit [Sp.root (hs.drop s)] hb8 (by simpa using o2) rfl).rd (natsC_one _ _) (by simp only [maxLen]; omega) (by omega) (by have := hS7.size; omega) ?_
        intro v9 w9 H7_13 X7_13 F7_13
        have hown := H7_13
        replace hS7 : Chg wd7 _ [] := (hS7.trans X7_13).mono (by intro k' hk' hlt; simp at hk'; have := (hown0.lt k' hk').1; omega)
        refine s_nil ⟨.inr hS7, ?_⟩
        refine d_take 14 8 rfl (by kernel_rfl) rfl hS7 (fun wS hS => runs_assign rfl) ?_
        refine d_done (by kernel_rfl) ?_
        replace hG := hG.keep hS7 (by simp)
        replace hH := hH.keep0 hS7
        replace hX : Chg w _ [] := (hX.trans hS7).mono (by intro k hk hlt; simp at hk ⊢ <;> first | omega | grind)
        refine hK14 _ _ ?_
        refine c_ret ?_
        refine hret _ _ ?_
        exact ends1 (reads_tmp rfl) ⟨by rw [Sp.growth_lo _ _ _ h0 (by omega) (by rw [hlen, ← hs']; omega), hlen, ← hs']; simpa [natsC_append] using own_base hown (by omega), hX⟩
      · refine c_skip ?_
        refine hK12 _ _ ?_
        refine c_seqdraw [] ([]) (by kernel_rfl) ?_
        intro K19 hK19 wd8 Xd8 hS8
        replace hG := hG.keep Xd8 (by simp)
        replace hH := hH.keep0 Xd8
        replace hX : Chg w _ [] := (hX.trans Xd8).mono (by intro k hk hlt; simp at hk ⊢ <;> first | omega | grind)
        have zd8 := Xd8.size
        have hzd := Xd8.size
        have hzX := hX.size
        refine d_take 0 39 rfl (by kernel_rfl) rfl hS8 (fun wS hS => runs_move rfl) ?_
        refine d_take 1 40 rfl (by kernel_rfl) rfl hS8 (fun wS hS => runs_move rfl) ?_
        refine d_take 2 41 rfl (by kernel_rfl) rfl hS8 (fun wS hS => runs_move rfl) ?_
        refine d_take 3 42 rfl (by kernel_rfl) rfl hS8 (fun wS hS => runs_as (v' := .int .i64 ((m - s : Nat) : Int)) (runs_sub64 rfl rfl (by omega)) (congrArg (Value.int .i64) (by omega))) ?_
        refine d_take 4 43 rfl (by kernel_rfl) rfl hS8 (fun wS hS => runs_move rfl) ?_
        refine d_take 5 44 rfl (by kernel_rfl) rfl hS8 (fun wS hS => runs_move rfl) ?_
        refine d_take 6 45 rfl (by kernel_rfl) rfl hS8 (fun wS hS => runs_slice_from (s) Tryd.underlying25 ty28 rfl rfl (by omega) (by omega)) ?_
        refine d_take 8 47 rfl (by kernel_rfl) rfl hS8 (fun wS hS => runs_move rfl) ?_
        refine d_take 9 48 rfl (by kernel_rfl) rfl hS8 (fun wS hS => runs_move rfl) ?_
        refine d_take 10 49 rfl (by kernel_rfl) rfl hS8 (fun wS hS => runs_move rfl) ?_
        refine d_take 11 50 rfl (by kernel_rfl) rfl hS8 (fun wS hS => runs_slice_to (s) Tryd.underlying25 ty28 rfl rfl (by omega) (by omega)) ?_
        refine d_only 7 rfl (by kernel_rfl) ?_
        refine s_callf (xs := [.tmp 39, .tmp 42, .const (.bool false), .tmp 45]) rfl rfl Tryd.func29 rfl (by kernel_rfl) rfl (ih (hs.drop s) (by omega) B false (m - s) _ _ _ _ hG (by omega) (hH.from_ s (by omega)) (by omega) (by omega) (by omega)) ?_
        rintro vg w7 ⟨hown, X8_7⟩
        have zs8_7 := X8_7.size
        have hzc := X8_7.size
        have hgl := Sp.growth_len false (m - s) (hs.drop s) (by omega) (by omega)
        replace hS8 : Chg wd8 _ [] := hS8.trans X8_7
        refine s_nil ⟨.inr hS8, ?_⟩
        refine d_only 12 rfl (by kernel_rfl) ?_
        refine s_callf (xs := [.tmp 47, .tmp 50]) rfl rfl Tryd.func15 rfl (by kernel_rfl) rfl (root0 (hG.keep hS8 (by simp)) (by have := hS8.size; omega) ((hH.keep0 hS8).to_ s (by omega)) (by omega)) ?_
        rintro _ w8 ⟨rfl, X8_12⟩
        replace hown := own_keep hown X8_12 (by simp)
        have zs8_12 := X8_12.size
        have hzr := X8_12.size
        replace hS8 : Chg wd8 _ [] := hS8.trans X8_12
        refine s_nil ⟨.inr hS8, ?_⟩
        refine d_only 13 rfl (by kernel_rfl) ?_
        refine s_lit (xs := [.tmp 51]) Tryd.underlying25 ty28 rfl rfl rfl rfl rfl (hv_sz (l := [Sp.root (hs.take s)]) (by simpa using o1)) (by decide) (by decide) ?_
        intro b8 w86 e8_13 z8_13 hb8 X8_13
        replace hown := own_keep hown X8_13 (by simp)
        have hown0 := hown
        replace hS8 : Chg wd8 _ [] := hS8.trans X8_13
        refine s_nil ⟨.inr hS8, ?_⟩
        refine d_only 14 rfl (by kernel_rfl) ?_
        refine s_append Tryd.underlying25 ty28 rfl (by decide) rfl rfl rfl hown rfl (hs_lit [Sp.root (hs.take s)] hb8 (by simpa using o1) rfl).rd (natsC_one _ _) (by simp only [maxLen]; omega) (by omega) (by have := hS8.size; omega) ?_
        intro v9 w9 H8_14 X8_14 F8_14
        have hown := H8_14
        replace hS8 : Chg wd8 _ [] := (hS8.trans X8_14).mono (by intro k' hk' hlt; simp at hk'; have := (hown0.lt k' hk').1; omega)
        refine s_nil ⟨.inr hS8, ?_⟩
        refine d_take 15 8 rfl (by kernel_rfl) rfl hS8 (fun wS hS => runs_assign rfl) ?_
        refine d_done (by kernel_rfl) ?_
        replace hG := hG.keep hS8 (by simp)
        replace hH := hH.keep0 hS8
        replace hX : Chg w _ [] := (hX.trans hS8).mono (by intro k hk hlt; simp at hk ⊢ <;> first | omega | grind)
        refine hK19 _ _ ?_
        refine c_ret ?_
        refine hret _ _ ?_
        exact ends1 (reads_tmp rfl) ⟨by rw [Sp.growth_hi _ _ _ (by omega) (by rw [hlen, ← hs']; omega), hlen, ← hs']; simpa [natsC_append] using own_base hown (by omega), hX⟩

theorem grows_bad (i : Int) (a : Option Addr) (n c : Nat) (w : World) (h : i < 0 ∨ (n : Int) < i) :
    CallsR Tryd.prog 24 #[.pointer none, .int .i64 i, .slice a n c] w fun v w' => v = .tuple #[.slice none 0 0, .bool false] ∧ Chg w w' [] := by
  refine f_enter (l := [.pointer none, .int .i64 i, .slice a n c]) Tryd.func24 rfl rfl rfl rfl ?_
  rcases Decidable.em (i < 0) with hi | hi
  · skip
    intro Qf hnrm hret
    refine c_seqreg (fun K1 hK1 => ?_)
    refine s_val rfl rfl (runs_assign rfl) ?_
    refine s_val rfl rfl (runs_assign rfl) ?_
    refine s_nil ?_
    refine hK1 _ _ ?_
    refine c_seq (fun K2 hK2 => ?_)
    refine c_seqreg (fun K3 hK3 => ?_)
    refine s_val rfl rfl (runs_move rfl) ?_
    refine s_val rfl rfl (runs_dt (runs_lt rfl rfl) hi) ?_
    refine s_val rfl rfl (runs_move rfl) ?_
    refine s_skip rfl rfl ?_
    refine s_skip rfl rfl ?_
    refine s_skip rfl rfl ?_
    refine s_skip rfl rfl ?_
    refine s_val rfl rfl (runs_pickt rfl rfl) ?_
    refine s_nil ?_
    refine hK3 _ _ ?_
    refine c_true rfl ?_
    refine c_seqreg (fun K4 hK4 => ?_)
    refine s_val rfl rfl (runs_assign rfl) ?_
    refine s_val rfl rfl (runs_assign rfl) ?_
    refine s_nil ?_
    refine hK4 _ _ ?_
    refine c_ret ?_
    refine hret _ _ ?_
    exact ends2 (reads_tmp rfl) (reads_tmp rfl) ⟨rfl, Chg.refl _ _⟩
  · skip
    intro Qf hnrm hret
    refine c_seqreg (fun K1 hK1 => ?_)
    refine s_val rfl rfl (runs_assign rfl) ?_
    refine s_val rfl rfl (runs_assign rfl) ?_
    refine s_nil ?_
    refine hK1 _ _ ?_
    refine c_seq (fun K2 hK2 => ?_)
    refine c_seqreg (fun K3 hK3 => ?_)
    refine s_val rfl rfl (runs_move rfl) ?_
    refine s_val rfl rfl (runs_df (runs_lt rfl rfl) hi) ?_
    refine s_val rfl rfl (runs_move rfl) ?_
    refine s_val rfl rfl (runs_move rfl) ?_
    refine s_val rfl rfl (runs_move rfl) ?_
    refine s_val rfl rfl (runs_len_slice Tryd.underlying25 rfl) ?_
    refine s_val rfl rfl (runs_dt (runs_gt rfl rfl) (by omega)) ?_
    refine s_val rfl rfl (runs_pickf rfl rfl) ?_
    refine s_nil ?_
    refine hK3 _ _ ?_
    refine c_true rfl ?_
    refine c_seqreg (fun K4 hK4 => ?_)
    refine s_val rfl rfl (runs_assign rfl) ?_
    refine s_val rfl rfl (runs_assign rfl) ?_
    refine s_nil ?_
    refine hK4 _ _ ?_
    refine c_ret ?_
    refine hret _ _ ?_
    exact ends2 (reads_tmp rfl) (reads_tmp rfl) ⟨rfl, Chg.refl _ _⟩
/-- What Growth gives of m leaves, no more than there are. -/
def Sp.grown (m : Nat) (l : List (List Nat)) : List (List Nat) := if m = 0 ∨ m = l.length then [] else Sp.growth true m l
theorem grown_ok (m : Nat) (l : List (List Nat)) (hm : m ≤ l.length) (hok : ∀ x ∈ l, HOk x) : ∀ x ∈ Sp.grown m l, HOk x := by
  unfold Sp.grown
  split
  · simp
  · exact growth_ok _ _ _ _ (Nat.le_refl _) (by omega) hm hok
theorem grows_calls (B m : Nat) (hs : List (List Nat)) (a : Option Addr) (n c : Nat) (w : World) (hG : GH B w) (hBw : B ≤ w.heap.size) (hH : HsR w a n c hs) (hn : n ≤ 1048576) (hmn : m ≤ n) :
    CallsR Tryd.prog 24 #[.pointer none, .int .i64 (m : Int), .slice a n c] w fun v w' => ∃ vp, v = .tuple #[vp, .bool true] ∧ w'.ownsRow w.heap.size 28 32 vp (Sp.grown m hs).length (natsC .u8 (Sp.grown m hs).flatten) ∧ Chg w w' [] := by
  have hlen := hH.len
  refine f_enter (l := [.pointer none, .int .i64 (m : Int), .slice a n c]) Tryd.func24 rfl rfl rfl rfl ?_
  rcases Decidable.em (m = 0) with h0 | h0
  · have he : Sp.grown m hs = [] := by unfold Sp.grown; rw [if_pos (.inl h0)]
    rw [he]
    intro Qf hnrm hret
    refine c_seqreg (fun K1 hK1 => ?_)
    refine s_val rfl rfl (runs_assign rfl) ?_
    refine s_val rfl rfl (runs_assign rfl) ?_
    refine s_nil ?_
    refine hK1 _ _ ?_
    refine c_seq (fun K2 hK2 => ?_)
    refine c_seqreg (fun K3 hK3 => ?_)
    refine s_val rfl rfl (runs_move rfl) ?_
    refine s_val rfl rfl (runs_df (runs_lt rfl rfl) (by omega)) ?_
    refine s_val rfl rfl (runs_move rfl) ?_
    refine s_val rfl rfl (runs_move rfl) ?_
    refine s_val rfl rfl (runs_move rfl) ?_
    refine s_val rfl rfl (runs_len_slice Tryd.underlying25 rfl) ?_
    refine s_val rfl rfl (runs_df (runs_gt rfl rfl) (by omega)) ?_
    refine s_val rfl rfl (runs_pickf rfl rfl) ?_
    refine s_nil ?_
    refine hK3 _ _ ?_
    refine c_false rfl ?_
    refine c_skip ?_
    refine hK2 _ _ ?_
    refine c_seq (fun K4 hK4 => ?_)
    refine c_seqreg (fun K5 hK5 => ?_)
    refine s_val rfl rfl (runs_move rfl) ?_
    refine s_val rfl rfl (runs_dt (runs_eqd rfl rfl) (by omega)) ?_
    refine s_val rfl rfl (runs_move rfl) ?_
    refine s_skip rfl rfl ?_
    refine s_skip rfl rfl ?_
    refine s_skip rfl rfl ?_
    refine s_skip rfl rfl ?_
    refine s_val rfl rfl (runs_pickt rfl rfl) ?_
    refine s_nil ?_
    refine hK5 _ _ ?_
    refine c_true rfl ?_
    refine c_seqreg (fun K6 hK6 => ?_)
    refine s_val rfl rfl (runs_assign rfl) ?_
    refine s_val rfl rfl (runs_assign rfl) ?_
    refine s_nil ?_
    refine hK6 _ _ ?_
    refine c_ret ?_
    refine hret _ _ ?_
    exact ends2 (reads_tmp rfl) (reads_tmp rfl) ⟨_, rfl, World.ownsRow_nil _ _ _ _, Chg.refl _ _⟩
  · skip
    rcases Decidable.em (m = n) with h1 | h1
    · have he : Sp.grown m hs = [] := by unfold Sp.grown; rw [if_pos (.inr (by omega))]
      rw [he]
      intro Qf hnrm hret
      refine c_seqreg (fun K1 hK1 => ?_)
      refine s_val rfl rfl (runs_assign rfl) ?_
      refine s_val rfl rfl (runs_assign rfl) ?_
      refine s_nil ?_
      refine hK1 _ _ ?_
      refine c_seq (fun K2 hK2 => ?_)
      refine c_seqreg (fun K3 hK3 => ?_)
      refine s_val rfl rfl (runs_move rfl) ?_
      refine s_val rfl rfl (runs_df (runs_lt rfl rfl) (by omega)) ?_
      refine s_val rfl rfl (runs_move rfl) ?_
      refine s_val rfl rfl (runs_move rfl) ?_
      refine s_val rfl rfl (runs_move rfl) ?_
      refine s_val rfl rfl (runs_len_slice Tryd.underlying25 rfl) ?_
      refine s_val rfl rfl (runs_df (runs_gt rfl rfl) (by omega)) ?_
      refine s_val rfl rfl (runs_pickf rfl rfl) ?_
      refine s_nil ?_
      refine hK3 _ _ ?_
      refine c_false rfl ?_
      refine c_skip ?_
      refine hK2 _ _ ?_
      refine c_seq (fun K4 hK4 => ?_)
      refine c_seqreg (fun K5 hK5 => ?_)
      refine s_val rfl rfl (runs_move rfl) ?_
      refine s_val rfl rfl (runs_df (runs_eqd rfl rfl) (by omega)) ?_
      refine s_val rfl rfl (runs_move rfl) ?_
      refine s_val rfl rfl (runs_move rfl) ?_
      refine s_val rfl rfl (runs_move rfl) ?_
      refine s_val rfl rfl (runs_len_slice Tryd.underlying25 rfl) ?_
      refine s_val rfl rfl (runs_dt (runs_eqd rfl rfl) (by omega)) ?_
      refine s_val rfl rfl (runs_pickf rfl rfl) ?_
      refine s_nil ?_
      refine hK5 _ _ ?_
      refine c_true rfl ?_
      refine c_seqreg (fun K6 hK6 => ?_)
      refine s_val rfl rfl (runs_assign rfl) ?_
      refine s_val rfl rfl (runs_assign rfl) ?_
      refine s_nil ?_
      refine hK6 _ _ ?_
      refine c_ret ?_
      refine hret _ _ ?_
      exact ends2 (reads_tmp rfl) (reads_tmp rfl) ⟨_, rfl, World.ownsRow_nil _ _ _ _, Chg.refl _ _⟩
    · have he : Sp.grown m hs = Sp.growth true m hs := by unfold Sp.grown; rw [if_neg (by omega)]
      rw [he]
      intro Qf hnrm hret
      refine c_seqreg (fun K1 hK1 => ?_)
      refine s_val rfl rfl (runs_assign rfl) ?_
      refine s_val rfl rfl (runs_assign rfl) ?_
      refine s_nil ?_
      refine hK1 _ _ ?_
      refine c_seq (fun K2 hK2 => ?_)
      refine c_seqreg (fun K3 hK3 => ?_)
      refine s_val rfl rfl (runs_move rfl) ?_
      refine s_val rfl rfl (runs_df (runs_lt rfl rfl) (by omega)) ?_
      refine s_val rfl rfl (runs_move rfl) ?_
      refine s_val rfl rfl (runs_move rfl) ?_
      refine s_val rfl rfl (runs_move rfl) ?_
      refine s_val rfl rfl (runs_len_slice Tryd.underlying25 rfl) ?_
      refine s_val rfl rfl (runs_df (runs_gt rfl rfl) (by omega)) ?_
      refine s_val rfl rfl (runs_pickf rfl rfl) ?_
      refine s_nil ?_
      refine hK3 _ _ ?_
      refine c_false rfl ?_
      refine c_skip ?_
      refine hK2 _ _ ?_
      refine c_seq (fun K4 hK4 => ?_)
      refine c_seqreg (fun K5 hK5 => ?_)
      refine s_val rfl rfl (runs_move rfl) ?_
      refine s_val rfl rfl (runs_df (runs_eqd rfl rfl) (by omega)) ?_
      refine s_val rfl rfl (runs_move rfl) ?_
      refine s_val rfl rfl (runs_move rfl) ?_
      refine s_val rfl rfl (runs_move rfl) ?_
      refine s_val rfl rfl (runs_len_slice Tryd.underlying25 rfl) ?_
      refine s_val rfl rfl (runs_df (runs_eqd rfl rfl) (by omega)) ?_
      refine s_val rfl rfl (runs_pickf rfl rfl) ?_
      refine s_nil ?_
      refine hK5 _ _ ?_
      refine c_false rfl ?_
      refine c_skip ?_
      refine hK4 _ _ ?_
      refine c_seqreg (fun K6 hK6 => ?_)
      refine s_val rfl rfl (runs_move rfl) ?_
      refine s_val rfl rfl (runs_move rfl) ?_
      refine s_val rfl rfl (runs_move rfl) ?_
      refine s_callf (xs := [.tmp 24, .tmp 25, .const (.bool true), .tmp 26]) rfl rfl Tryd.func29 rfl (by kernel_rfl) rfl (growth_calls _ hs (Nat.le_refl _) B true m _ _ _ _ hG hBw hH hn (by omega) hmn) ?_
      rintro vg w5 ⟨hown, X5_3⟩
      have zs5_3 := X5_3.size
      refine s_val rfl rfl (runs_assign rfl) ?_
      refine s_val rfl rfl (runs_assign rfl) ?_
      refine s_nil ?_
      refine hK6 _ _ ?_
      refine c_ret ?_
      refine hret _ _ ?_
      exact ends2 (reads_tmp rfl) (reads_tmp rfl) ⟨_, rfl, hown, X5_3⟩
end Go.Proofs.YtecpedpfkdnfhaaDoor
