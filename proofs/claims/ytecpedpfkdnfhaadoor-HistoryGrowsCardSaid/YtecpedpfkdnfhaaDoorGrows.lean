/- Part Grows of the proofs on this seat. Conditions: none beyond those in the theorems. By an AI agent. -/
import Derived.Test.YtecpedpfkdnfhaaDoorLaw2
namespace Go.Proofs.YtecpedpfkdnfhaaDoor
open Go Go.RowKit

/-- The plain law. -/
theorem grows_law {hs : List (List Nat)} {m : Nat} {old : List Nat} {L : List (List Nat)} (hm : m ≤ hs.length) (ok : ∀ x ∈ hs, HOk x) (oko : HOk old) (hne : old ≠ Sp.root (hs.take m))
    (hg : Sp.isGrown m hs.length old (Sp.root hs) (Sp.grown m hs) = true) (hL : ∀ x, x ∈ Sp.isGrownN m hs.length old (Sp.grown m hs) ∨ x ∈ Sp.notes hs → x ∈ L) : Sp.Clash L := by
  by_cases h1 : m = hs.length
  · exfalso
    subst h1
    unfold Sp.isGrown at hg
    rw [if_pos rfl] at hg
    simp only [Bool.and_eq_true, beq_iff_eq] at hg
    rw [List.take_length] at hne
    exact hne hg.2
  by_cases h0 : m = 0
  · exfalso
    subst h0
    unfold Sp.isGrown at hg
    rw [if_neg h1, if_pos rfl] at hg
    simp only [Bool.and_eq_true, beq_iff_eq] at hg
    exact hne hg.2
  have hb := isGrown_mid hg (by omega) (by omega)
  have e : Sp.grown m hs = Sp.growth true m hs := by unfold Sp.grown; rw [if_neg (by omega)]
  rw [isGrownN_mid (by omega) (by omega), e] at hL
  rw [e] at hb
  rcases grown_coll _ hs m true old (Nat.le_refl _) (by omega) hm ok oko (by rw [hb]) with h | h
  · rw [hb] at h; exact absurd h hne
  · refine h.mono fun x hx => hL x ?_
    simp only [List.mem_append] at hx
    exact hx

set_option maxHeartbeats 4000000 in
theorem grows_law_calls (B : Nat) (bss : List (List Nat)) (a : Option Addr) (n c : Nat) (km : Int) (w : World) (hG0 : GH B w) (hBw : B ≤ w.heap.size) (hP : Parts w a n c bss) :
    CallsR Tryd.prog 9 #[.slice a n c, .int .i64 km] w fun v w' => v = .bool true ∧ Chg w w' [] := by
  have hlen := hP.length
  have hX : Chg w w [] := Chg.refl _ _
  have hG := hG0
  refine f_enter (l := [.slice a n c, .int .i64 km]) Tryd.func9 rfl rfl rfl rfl ?_
  cases hL : Sp.light bss with
  | false =>
    intro Qf hnrm hret
    refine c_seqreg (fun K1 hK1 => ?_)
    refine s_val rfl rfl (runs_assign rfl) ?_
    refine s_nil ?_
    refine hK1 _ _ ?_
    refine c_seq (fun K2 hK2 => ?_)
    refine c_seqreg (fun K3 hK3 => ?_)
    refine s_callf (xs := []) rfl rfl Tryd.func12 rfl (by kernel_rfl) rfl (fit_calls B _ hG (by omega)) ?_
    rintro _ w1 ⟨rfl, X1_0⟩
    replace hG := hG.keep X1_0 (by simp)
    replace hX : Chg w _ [] := (hX.trans X1_0).mono (by intro k hk hlt; simp at hk ⊢ <;> first | omega | grind)
    have zs1_0 := X1_0.size
    refine s_val rfl rfl (runs_not rfl) ?_
    refine s_nil ?_
    refine hK3 _ _ ?_
    refine c_false rfl ?_
    refine c_skip ?_
    refine hK2 _ _ ?_
    refine c_seq (fun K5 hK5 => ?_)
    refine c_seqreg (fun K6 hK6 => ?_)
    refine s_val rfl rfl (runs_move rfl) ?_
    refine s_callf (xs := [.tmp 19]) rfl rfl Tryd.func13 rfl (by kernel_rfl) rfl (light_calls bss _ _ _ _ (hP.grow hX)) ?_
    rintro _ w3 ⟨rfl, X3_1⟩
    replace hG := hG.keep X3_1 (by simp)
    replace hX : Chg w _ [] := (hX.trans X3_1).mono (by intro k hk hlt; simp at hk ⊢ <;> first | omega | grind)
    have zs3_1 := X3_1.size
    rw [hL]
    refine s_val rfl rfl (runs_not rfl) ?_
    refine s_nil ?_
    refine hK6 _ _ ?_
    refine c_true rfl ?_
    refine c_seqreg (fun K8 hK8 => ?_)
    refine s_val rfl rfl (runs_assign rfl) ?_
    refine s_nil ?_
    refine hK8 _ _ ?_
    refine c_ret ?_
    refine hret _ _ ?_
    exact ends1 (reads_tmp rfl) ⟨rfl, hX⟩
  | true =>
    have hl1 := Sp.light_len hL
    have hl2 := Sp.light_each hL
    intro Qf hnrm hret
    refine c_seqreg (fun K1 hK1 => ?_)
    refine s_val rfl rfl (runs_assign rfl) ?_
    refine s_nil ?_
    refine hK1 _ _ ?_
    refine c_seq (fun K2 hK2 => ?_)
    refine c_seqreg (fun K3 hK3 => ?_)
    refine s_callf (xs := []) rfl rfl Tryd.func12 rfl (by kernel_rfl) rfl (fit_calls B _ hG (by omega)) ?_
    rintro _ w1 ⟨rfl, X1_0⟩
    replace hG := hG.keep X1_0 (by simp)
    replace hX : Chg w _ [] := (hX.trans X1_0).mono (by intro k hk hlt; simp at hk ⊢ <;> first | omega | grind)
    have zs1_0 := X1_0.size
    refine s_val rfl rfl (runs_not rfl) ?_
    refine s_nil ?_
    refine hK3 _ _ ?_
    refine c_false rfl ?_
    refine c_skip ?_
    refine hK2 _ _ ?_
    refine c_seq (fun K5 hK5 => ?_)
    refine c_seqreg (fun K6 hK6 => ?_)
    refine s_val rfl rfl (runs_move rfl) ?_
    refine s_callf (xs := [.tmp 19]) rfl rfl Tryd.func13 rfl (by kernel_rfl) rfl (light_calls bss _ _ _ _ (hP.grow hX)) ?_
    rintro _ w3 ⟨rfl, X3_1⟩
    replace hG := hG.keep X3_1 (by simp)
    replace hX : Chg w _ [] := (hX.trans X3_1).mono (by intro k hk hlt; simp at hk ⊢ <;> first | omega | grind)
    have zs3_1 := X3_1.size
    rw [hL]
    refine s_val rfl rfl (runs_not rfl) ?_
    refine s_nil ?_
    refine hK6 _ _ ?_
    refine c_false rfl ?_
    refine c_skip ?_
    refine hK5 _ _ ?_
    refine c_seqreg (fun K8 hK8 => ?_)
    refine s_val rfl rfl (runs_build_zeroS (xs := #[(0, 1)]) Tryd.underlying37 ty37 rfl (by kernel_rfl)) ?_
    refine s_box rfl rfl rfl ?_
    intro bt w5t e5_1 z5_1 hbt X5_1
    have s5_1_hX := hX.size
    replace hG := hG.keep X5_1 (by simp)
    replace hX : Chg w _ [] := (hX.trans X5_1).mono (by intro k hk hlt; simp at hk ⊢ <;> first | omega | grind)
    replace hbt : Blk w5t bt ([.slice none 0 0]) 37 := hbt
    have hlbt := hbt.lt
    have hT := TL.new (B := B) (lo := w.heap.size) hbt (by omega) (by omega)
    refine s_val rfl rfl (runs_assign rfl) ?_
    refine s_nil ?_
    refine hK8 _ _ ?_
    refine c_seqreg (fun K10 hK10 => ?_)
    refine s_val rfl rfl (runs_move rfl) ?_
    refine s_val rfl rfl (runs_move rfl) ?_
    refine s_callf (xs := [.tmp 24, .tmp 25]) rfl rfl Tryd.func19 rfl (by kernel_rfl) rfl (hT.noted hG (by omega) (hP.grow hX) hL (fun W x => hP.grow ((hX.trans x).mono (by intro k hk hlt; have h := hT.ft _ (by simpa using hk); simp [Rg] at h <;> omega))) (by simp <;> omega)) ?_
    rintro vh w7 ⟨hown, vt7, hC7⟩
    replace hG := hG.keep hC7.chg (fun k hk => by have h := hC7.ft k hk; simp [Rg] at h <;> omega)
    replace hX : Chg w _ [] := (hX.trans hC7.chg).mono (by intro k hk hlt; have h := hC7.ft k (by simpa using hk); simp [Rg] at h <;> omega)
    have zs6_2 := hC7.chg.size
    obtain ⟨hs, hhs⟩ : ∃ hs, hs = bss.map Sp.leaf := ⟨_, rfl⟩
    rw [← hhs] at hown
    have hsok : ∀ x ∈ hs, HOk x := by rw [hhs]; exact leaves_ok bss
    obtain ⟨ah, ch, rfl, hH, hob⟩ := own_hs hown hsok (by rw [hhs, List.length_map, hlen])
    obtain ⟨lh, hlh⟩ : ∃ lh, lh = (ah.map (·.block)).toList := ⟨_, rfl⟩
    have hah : ∀ p, ah = some p → p.block ∈ lh := fun p hp => by rw [hlh, hp]; simp
    have hlt7 : ∀ p, ah = some p → w.heap.size ≤ p.block ∧ p.block < w7.heap.size := fun p hp => by have := hown.lt p.block (by rw [hob, hp]; rfl); omega
    have hT := hC7.tl
    rw [hob, ← hlh, List.append_nil, List.nil_append] at hT
    have hsl : hs.length = n := hH.len
    have hcn := hH.rd.le
    refine s_val rfl rfl (runs_assign rfl) ?_
    refine s_nil ?_
    have hzX6 := hX.size
    refine hK10 _ _ ?_
    refine c_seqreg (fun K12 hK12 => ?_)
    refine s_val rfl rfl (runs_move rfl) ?_
    refine s_val rfl rfl (runs_move rfl) ?_
    refine s_callf (xs := [.tmp 27, .tmp 28]) rfl rfl Tryd.func15 rfl (by kernel_rfl) rfl (hT.root [] (by simp) hG (by omega) hH (fun p hp => .inr (by simp [hah p hp])) (by omega) (by simp <;> omega)) ?_
    rintro _ w72 ⟨rfl, vt72, hC72⟩
    replace hG := hG.keep hC72.chg (fun k hk => by have h := hC72.ft k hk; simp [Rg] at h <;> omega)
    replace hX : Chg w _ [] := (hX.trans hC72.chg).mono (by intro k hk hlt; have h := hC72.ft k (by simpa using hk); simp [Rg] at h <;> omega)
    replace hH := hH.keep hC72.chg (fun p hp hm => (hC72.ft _ hm).2.2 (by simp [hah p hp]))
    have zs7_2 := hC72.chg.size
    have hT := hC72.tl
    have hn1 := Sp.notes_le hs
    have hro := root_len hs hsok
    have hro' := root_ok _ _ (Nat.le_refl _) hsok
    refine s_alloc ty28 rfl rfl ?_
    intro b7 w73a e7_3 z7_3 hb7 X7_3
    have s7_3_hX := hX.size
    replace hG := hG.keep X7_3 (by simp)
    replace hX : Chg w _ [] := (hX.trans X7_3).mono (by intro k hk hlt; simp at hk ⊢ <;> first | omega | grind)
    replace hH := hH.keep0 X7_3
    replace hT := hT.keep X7_3 (by simp)
    refine s_storeAll ty28 rfl rfl rfl hb7 (by rw [natsC_length, hro]) rfl (natsC_one _ _) ?_
    intro w73s z7_4 h7_4 X7_4
    replace hG := hG.keep X7_4 (by simp; omega)
    replace hX : Chg w _ [] := (hX.trans X7_4).mono (by intro k hk hlt; simp at hk ⊢ <;> first | omega | grind)
    replace hH := hH.keep X7_4 (fun p hp => by have := hlt7 p hp; simp; omega)
    replace hT := hT.keep X7_4 (by simp [Rg] <;> omega)
    replace hb7 := h7_4
    refine s_nil ?_
    have hl7 := hb7.lt
    have hzX7 := hX.size
    replace hT := hT.set (b7 :: lh) (by
      intro x hx; simp only [List.mem_cons] at hx
      rcases hx with h1 | h1
      · right; subst h1; omega
      · left; simp [h1])
    refine hK12 _ _ ?_
    refine c_seqreg (fun K16 hK16 => ?_)
    refine s_val rfl rfl (runs_assign rfl) ?_
    refine s_nil ?_
    refine hK16 _ _ ?_
    refine c_seq (fun K17 hK17 => ?_)
    refine c_seqreg (fun K18 hK18 => ?_)
    refine s_val rfl rfl (runs_move rfl) ?_
    refine s_val rfl rfl (runs_len_slice Tryd.underlying25 rfl) ?_
    refine s_val rfl rfl (runs_add64 rfl rfl (by omega)) ?_
    refine s_val rfl rfl (runs_move rfl) ?_
    refine s_nil ?_
    refine hK18 _ _ ?_
    refine c_block ?_
    refine c_loop (σ := Nat × Bool) (fun s => [(33, .int .i64 (s.1 : Int)), (32, .int .i64 ((n : Int) + 1)), (8, .bool s.2), (5, .pointer (some ⟨bt, 0, none⟩)), (6, .slice ah n ch), (7, .pointer (some ⟨b7, 0, none⟩))]) (fun s w' => s.1 ≤ n + 1 ∧ w7.heap.size ≤ w'.heap.size ∧ GH B w' ∧ Chg w w' [] ∧ HsR w' ah n ch hs ∧ Blk w' b7 (natsC .u8 (Sp.root hs)) 28 ∧ ∃ hi vt L, TL w' B w.heap.size hi (b7 :: lh) bt vt L ∧ L.length ≤ 200 + 200 * s.1 ∧ (∀ x ∈ L, x.length ≤ 101) ∧ (∀ x ∈ Sp.notes hs, x ∈ L) ∧ (s.2 = true → Sp.Clash L)) (fun s => n + 1 - s.1) (0, false) ⟨rfl, rfl, rfl, rfl, rfl, rfl, trivial⟩ ⟨Nat.zero_le _, by omega, hG, hX, hH, hb7, _, _, _, hT, by simp; omega, (by
      intro x hx
      rcases List.mem_append.1 hx with hx | hx
      · exact leaves_short hl2 x hx
      · have := notes_short _ hs (Nat.le_refl _) hsok x hx; omega), (fun x hx => by simp [hx]), by simp⟩ ?_
    rintro ⟨i, wr⟩ wi ⟨hi, hzi, hG, hX, hH, hb7, hi', vtL, L, hT, hLl, hLs, hLn, hcl⟩
    dsimp only at hi hLl hcl ⊢
    have hzX := hX.size
    have htop := hT.top
    have hlb7 := hb7.lt
    refine c_seqreg (fun K19 hK19 => ?_)
    refine s_val rfl rfl (runs_lt rfl rfl) ?_
    refine s_nil ?_
    refine hK19 _ _ ?_
    refine c_seq (fun K20 hK20 => ?_)
    refine c_dec rfl (fun hin => ?_) (fun hin => ?_)
    · refine c_skip ?_
      refine hK20 _ _ ?_
      refine c_seq (fun K21 hK21 => ?_)
      refine c_block ?_
      refine c_seqreg (fun K22 hK22 => ?_)
      refine s_val rfl rfl (runs_move rfl) ?_
      refine s_val rfl rfl (runs_assign rfl) ?_
      refine s_nil ?_
      refine hK22 _ _ ?_
      refine c_seqreg (fun K23 hK23 => ?_)
      refine s_val rfl rfl (runs_move rfl) ?_
      refine s_val rfl rfl (runs_move rfl) ?_
      refine s_callf (xs := [.const (.pointer none), .tmp 37, .tmp 38]) rfl rfl Tryd.func24 rfl (by kernel_rfl) rfl (grows_calls B i hs _ n _ _ hG (by omega) hH (by omega) (by omega)) ?_
      rintro _ w12 ⟨vp, rfl, hovp, X12_2⟩
      replace hG := hG.keep X12_2 (by simp)
      replace hX : Chg w _ [] := (hX.trans X12_2).mono (by intro k hk hlt; simp at hk ⊢ <;> first | omega | grind)
      replace hH := hH.keep0 X12_2
      replace hb7 := hb7.keep X12_2 (by simp)
      replace hT := hT.keep X12_2 (by simp)
      have zs12_2 := X12_2.size
      obtain ⟨p, hp⟩ : ∃ p, p = Sp.grown i hs := ⟨_, rfl⟩
      rw [← hp] at hovp
      have okp : ∀ x ∈ p, HOk x := by rw [hp]; exact grown_ok i hs (by omega) hsok
      obtain ⟨ap, cp, rfl, hHp, hobp⟩ := own_hs hovp okp rfl
      have hltp : ∀ q, ap = some q → q.block < w12.heap.size := fun q hq => (hovp.lt q.block (by rw [hobp, hq]; rfl)).2
      have hpl : p.length ≤ n + 1 := by have := grown_len i hs (by omega); rw [hp]; omega
      have htok : ∀ x ∈ hs.take i, HOk x := fun x hx => hsok x (List.mem_of_mem_take hx)
      have hro12 := root_len _ htok
      have hok12 := root_ok _ _ (Nat.le_refl _) htok
      have hshow : Sp.isGrown i n (Sp.root (hs.take i)) (Sp.root hs) p = true := by have := grown_shows hs i (by omega); rw [hsl, ← hp] at this; exact this
      refine s_val rfl rfl (runs_move rfl) ?_
      refine s_val rfl rfl (runs_extract rfl rfl) ?_
      refine s_val rfl rfl (runs_extract rfl rfl) ?_
      refine s_val rfl rfl (runs_assign rfl) ?_
      refine s_val rfl rfl (runs_assign rfl) ?_
      refine s_nil ?_
      refine hK23 _ _ ?_
      refine c_seqreg (fun K25 hK25 => ?_)
      refine s_val rfl rfl (runs_move rfl) ?_
      refine s_val rfl rfl (runs_move rfl) ?_
      refine s_val rfl rfl (runs_slice_to (i) Tryd.underlying25 ty28 rfl rfl (by omega) (by omega)) ?_
      refine s_callf (xs := [.const (.pointer none), .tmp 44]) rfl rfl Tryd.func15 rfl (by kernel_rfl) rfl (root0 hG (by omega) (hH.to_ i (by omega)) (by omega)) ?_
      rintro _ w13 ⟨rfl, X13_3⟩
      replace hG := hG.keep X13_3 (by simp)
      replace hX : Chg w _ [] := (hX.trans X13_3).mono (by intro k hk hlt; simp at hk ⊢ <;> first | omega | grind)
      replace hH := hH.keep0 X13_3
      replace hb7 := hb7.keep X13_3 (by simp)
      replace hT := hT.keep X13_3 (by simp)
      replace hHp := hHp.keep0 X13_3
      have zs13_3 := X13_3.size
      refine s_alloc ty28 rfl rfl ?_
      intro b12 w134a e13_4 z13_4 hb12 X13_4
      have s13_4_hX := hX.size
      have s13_4_hb7 := hb7.lt
      replace hG := hG.keep X13_4 (by simp)
      replace hX : Chg w _ [] := (hX.trans X13_4).mono (by intro k hk hlt; simp at hk ⊢ <;> first | omega | grind)
      replace hH := hH.keep0 X13_4
      replace hb7 := hb7.keep X13_4 (by simp)
      replace hT := hT.keep X13_4 (by simp)
      replace hHp := hHp.keep0 X13_4
      refine s_storeAll ty28 rfl rfl rfl hb12 (by rw [natsC_length, hro12]) rfl (natsC_one _ _) ?_
      intro w134s z13_5 h13_5 X13_5
      replace hG := hG.keep X13_5 (by simp; omega)
      replace hX : Chg w _ [] := (hX.trans X13_5).mono (by intro k hk hlt; simp at hk ⊢ <;> first | omega | grind)
      replace hH := hH.keep X13_5 (fun p hp => by have := hlt7 p hp; simp; omega)
      replace hb7 := hb7.keep X13_5 (by simp; omega)
      replace hT := hT.keep X13_5 (by simp [Rg] <;> omega)
      replace hHp := hHp.keep X13_5 (fun q hq => by have := hltp q hq; simp; omega)
      replace hb12 := h13_5
      refine s_nil ?_
      have hlb12 := hb12.lt
      refine hK25 _ _ ?_
      refine c_seq (fun K29 hK29 => ?_)
      refine c_seqreg (fun K30 hK30 => ?_)
      refine s_val rfl rfl (runs_move rfl) ?_
      refine s_val rfl rfl (runs_not rfl) ?_
      refine s_val rfl rfl (runs_move rfl) ?_
      refine s_val rfl rfl (runs_move rfl) ?_
      refine s_val rfl rfl (runs_move rfl) ?_
      refine s_val rfl rfl (runs_len_slice Tryd.underlying25 rfl) ?_
      refine s_val rfl rfl (runs_loadAgg ty28 rfl hb12.at (by rw [natsC_length, hro12])) ?_
      refine s_val rfl rfl (runs_loadAgg ty28 rfl hb7.at (by rw [natsC_length, hro])) ?_
      refine s_val rfl rfl (runs_move rfl) ?_
      refine s_callf (xs := [.const (.pointer none), .tmp 49, .tmp 51, .tmp 52, .tmp 53, .tmp 54]) rfl rfl Tryd.func26 rfl (by kernel_rfl) rfl (grown0 (m := i) (n := n) hG (by omega) hok12 hro' hHp (fun q hq _ => by have := hltp q hq; omega) (by omega) (by omega) (by omega)) ?_
      rintro _ w14 ⟨rfl, X14_9⟩
      replace hG := hG.keep X14_9 (by simp)
      replace hX : Chg w _ [] := (hX.trans X14_9).mono (by intro k hk hlt; simp at hk ⊢ <;> first | omega | grind)
      replace hH := hH.keep0 X14_9
      replace hb7 := hb7.keep X14_9 (by simp)
      replace hT := hT.keep X14_9 (by simp)
      replace hHp := hHp.keep0 X14_9
      replace hb12 := hb12.keep X14_9 (by simp)
      have zs14_9 := X14_9.size
      rw [hshow]
      refine s_val rfl rfl (runs_not rfl) ?_
      refine s_val rfl rfl (runs_pickf rfl rfl) ?_
      refine s_nil ?_
      refine hK30 _ _ ?_
      refine c_false rfl ?_
      refine c_skip ?_
      refine hK29 _ _ ?_
      refine c_seqreg (fun K32 hK32 => ?_)
      refine s_val rfl rfl (runs_index_array (3) Tryd.underlying28 ty5 rfl rfl (by omega) (by omega)) ?_
      refine s_val rfl rfl (runs_load1 ty5 rfl (hb12.c1 (natsC_get (byte_at hok12 (j := 3) (by decide))))) ?_
      refine s_val rfl rfl (runs_inc8 rfl) ?_
      refine s_val rfl rfl (runs_index_array (3) Tryd.underlying28 ty5 rfl rfl (by omega) (by omega)) ?_
      refine s_store1 ty5 rfl rfl rfl hb12 (by rfl) (by rw [natsC_length, hro12]; omega) ?_
      intro w16 z16 h16 X16
      rw [Nat.zero_add, Nat.mul_one, natsC_set] at h16
      replace hb12 : Blk w16 b12 (natsC .u8 (Sp.bump (Sp.root (hs.take i)) 3)) 28 := h16
      replace hG := hG.keep X16 (by simp <;> omega)
      replace hX : Chg w _ [] := (hX.trans X16).mono (by intro k hk hlt; simp at hk; omega)
      replace hT := hT.keep X16 (by simp [Rg] <;> omega)
      replace hb7 := hb7.keep X16 (by simp; omega)
      replace hH := hH.keep X16 (fun p hp => by have := hlt7 p hp; simp; omega)
      replace hHp := hHp.keep X16 (fun q hq => by have := hltp q hq; simp; omega)
      refine s_nil ?_
      have hbok := bump_ok hok12 3
      have hbne := bump_ne hok12 (j := 3) (by decide)
      obtain ⟨od, hod⟩ : ∃ od, od = Sp.bump (Sp.root (hs.take i)) 3 := ⟨_, rfl⟩
      rw [← hod] at hb12 hbok hbne
      have hlb12 := hb12.lt
      refine hK32 _ _ ?_
      cases wr
      · refine c_reg ?_
        refine s_val rfl rfl (runs_move rfl) ?_
        refine s_val rfl rfl (runs_move rfl) ?_
        refine s_val rfl rfl (runs_move rfl) ?_
        refine s_val rfl rfl (runs_move rfl) ?_
        refine s_val rfl rfl (runs_move rfl) ?_
        refine s_val rfl rfl (runs_len_slice Tryd.underlying25 rfl) ?_
        refine s_val rfl rfl (runs_loadAgg ty28 rfl hb12.at (by rw [natsC_length, hbok.1])) ?_
        refine s_val rfl rfl (runs_loadAgg ty28 rfl hb7.at (by rw [natsC_length, hro])) ?_
        refine s_val rfl rfl (runs_move rfl) ?_
        refine s_callf (xs := [.tmp 64, .tmp 65, .tmp 67, .tmp 68, .tmp 69, .tmp 70]) rfl rfl Tryd.func26 rfl (by kernel_rfl) rfl (hT.grown [b12] (by simp <;> omega) hG (by omega) hbok hro' hHp (fun q hq _ => by have := hltp q hq; omega) (by omega) (by omega) (by omega) (by omega)) ?_
        rintro _ w179 ⟨rfl, vt179, hC179⟩
        replace hG := hG.keep hC179.chg (fun k hk => by have h := hC179.ft k hk; simp [Rg] at h <;> omega)
        replace hX : Chg w _ [] := (hX.trans hC179.chg).mono (by intro k hk hlt; have h := hC179.ft k (by simpa using hk); simp [Rg] at h <;> omega)
        replace hH := hH.keep hC179.chg (fun p hp hm => (hC179.ft _ hm).2.2 (by simp [hah p hp]))
        replace hb7 := hb7.keep hC179.chg (fun hm => by have h := hC179.ft _ hm; simp [Rg] at h <;> omega)
        replace hb12 := hb12.keep hC179.chg (fun hm => by have h := hC179.ft _ hm; simp [Rg] at h <;> omega)
        have zs17_9 := hC179.chg.size
        have hT := hC179.tl
        obtain ⟨gb, hgb⟩ : ∃ x, x = Sp.isGrown i n od (Sp.root hs) p := ⟨_, rfl⟩
        rw [← hgb]
        have hn5 := Sp.isGrownN_len i n od p
        refine s_val rfl rfl (runs_pickf rfl rfl) ?_
        refine s_val rfl rfl (runs_assign rfl) ?_
        refine s_nil ?_
        have hN : ∃ hi vt L, TL w179 B w.heap.size hi (b7 :: lh) bt vt L ∧ L.length ≤ 200 + 200 * (i + 1) ∧ (∀ x ∈ L, x.length ≤ 101) ∧ (∀ x ∈ Sp.notes hs, x ∈ L) ∧ (gb = true → Sp.Clash L) := by
          refine ⟨_, _, _, hT.set (b7 :: lh) (fun x hx => .inl (List.mem_append.2 (.inr hx))), by rw [List.length_append]; omega, ?_, fun x hx => by simp [hLn x hx], fun hg => ?_⟩
          · intro x hx
            rcases List.mem_append.1 hx with hx | hx
            · exact hLs x hx
            · have := isGrownN_short i n od hbok p okp x hx; omega
          · refine grows_law (m := i) (hs := hs) (by omega) hsok hbok hbne (by rw [hsl, ← hp, ← hgb]; exact hg) fun x hx => ?_
            rw [hsl, ← hp] at hx
            rcases hx with hx | hx
            · simp [hx]
            · simp [hLn x hx]
        refine hK21 _ _ ?_
        refine c_reg ?_
        refine s_val rfl rfl (runs_add64 rfl rfl (by omega)) ?_
        refine s_val rfl rfl (runs_move rfl) ?_
        refine s_nil ?_
        dsimp only [Post.setN]
        exact ⟨(i + 1, _), ⟨rfl, rfl, rfl, rfl, rfl, rfl, trivial⟩, ⟨by dsimp only; omega, by omega, hG, hX, hH, hb7, hN⟩, by dsimp only; omega⟩
      · refine c_reg ?_
        refine s_val rfl rfl (runs_move rfl) ?_
        refine s_val rfl rfl (runs_move rfl) ?_
        refine s_skip rfl rfl ?_
        refine s_skip rfl rfl ?_
        refine s_skip rfl rfl ?_
        refine s_skip rfl rfl ?_
        refine s_skip rfl rfl ?_
        refine s_skip rfl rfl ?_
        refine s_skip rfl rfl ?_
        refine s_skip rfl rfl ?_
        refine s_val rfl rfl (runs_pickt rfl rfl) ?_
        refine s_val rfl rfl (runs_assign rfl) ?_
        refine s_nil ?_
        have hN : ∃ hi vt L, TL w16 B w.heap.size hi (b7 :: lh) bt vt L ∧ L.length ≤ 200 + 200 * (i + 1) ∧ (∀ x ∈ L, x.length ≤ 101) ∧ (∀ x ∈ Sp.notes hs, x ∈ L) ∧ (true = true → Sp.Clash L) := ⟨_, _, _, hT, by omega, hLs, hLn, hcl⟩
        refine hK21 _ _ ?_
        refine c_reg ?_
        refine s_val rfl rfl (runs_add64 rfl rfl (by omega)) ?_
        refine s_val rfl rfl (runs_move rfl) ?_
        refine s_nil ?_
        dsimp only [Post.setN]
        exact ⟨(i + 1, _), ⟨rfl, rfl, rfl, rfl, rfl, rfl, trivial⟩, ⟨by dsimp only; omega, by omega, hG, hX, hH, hb7, hN⟩, by dsimp only; omega⟩
    · refine c_exit ?_
      refine hK17 _ _ ?_
      refine c_seqreg (fun K35 hK35 => ?_)
      refine s_val rfl rfl (runs_move rfl) ?_
      refine s_val rfl rfl (runs_len_slice Tryd.underlying25 rfl) ?_
      refine s_val rfl rfl (runs_add64 rfl rfl (by omega)) ?_
      refine s_val rfl rfl (runs_move rfl) ?_
      refine s_callf (xs := [.const (.pointer none), .tmp 77, .tmp 78]) rfl rfl Tryd.func24 rfl (by kernel_rfl) rfl (grows_bad _ _ n _ _ (.inr (by omega))) ?_
      rintro _ w19 ⟨rfl, X19_4⟩
      replace hG := hG.keep X19_4 (by simp)
      replace hX : Chg w _ [] := (hX.trans X19_4).mono (by intro k hk hlt; simp at hk ⊢ <;> first | omega | grind)
      replace hH := hH.keep0 X19_4
      replace hb7 := hb7.keep X19_4 (by simp)
      replace hT := hT.keep X19_4 (by simp)
      have zs19_4 := X19_4.size
      refine s_val rfl rfl (runs_move rfl) ?_
      refine s_val rfl rfl (runs_extract rfl rfl) ?_
      refine s_val rfl rfl (runs_extract rfl rfl) ?_
      refine s_val rfl rfl (runs_assign rfl) ?_
      refine s_val rfl rfl (runs_assign rfl) ?_
      refine s_nil ?_
      refine hK35 _ _ ?_
      refine c_seqreg (fun K37 hK37 => ?_)
      refine s_val rfl rfl (runs_move rfl) ?_
      refine s_callf (xs := [.const (.pointer none), .const (.int .i64 (-1)), .tmp 83]) rfl rfl Tryd.func24 rfl (by kernel_rfl) rfl (grows_bad _ _ n _ _ (.inl (by omega))) ?_
      rintro _ w20 ⟨rfl, X20_1⟩
      replace hG := hG.keep X20_1 (by simp)
      replace hX : Chg w _ [] := (hX.trans X20_1).mono (by intro k hk hlt; simp at hk ⊢ <;> first | omega | grind)
      replace hH := hH.keep0 X20_1
      replace hb7 := hb7.keep X20_1 (by simp)
      replace hT := hT.keep X20_1 (by simp)
      have zs20_1 := X20_1.size
      refine s_val rfl rfl (runs_move rfl) ?_
      refine s_val rfl rfl (runs_extract rfl rfl) ?_
      refine s_val rfl rfl (runs_extract rfl rfl) ?_
      refine s_val rfl rfl (runs_assign rfl) ?_
      refine s_val rfl rfl (runs_assign rfl) ?_
      refine s_nil ?_
      refine hK37 _ _ ?_
      cases wr
      · refine c_seqreg (fun K39 hK39 => ?_)
        refine s_val rfl rfl (runs_move rfl) ?_
        refine s_val rfl rfl (runs_not rfl) ?_
        refine s_val rfl rfl (runs_move rfl) ?_
        refine s_val rfl rfl (runs_move rfl) ?_
        refine s_val rfl rfl (runs_not rfl) ?_
        refine s_val rfl rfl (runs_pickt rfl rfl) ?_
        refine s_val rfl rfl (runs_move rfl) ?_
        refine s_val rfl rfl (runs_move rfl) ?_
        refine s_val rfl rfl (runs_not rfl) ?_
        refine s_val rfl rfl (runs_move rfl) ?_
        refine s_skip rfl rfl ?_
        refine s_skip rfl rfl ?_
        refine s_val rfl rfl (runs_pickt rfl rfl) ?_
        refine s_val rfl rfl (runs_pickt rfl rfl) ?_
        refine s_val rfl rfl (runs_assign rfl) ?_
        refine s_nil ?_
        refine hK39 _ _ ?_
        refine c_ret ?_
        refine hret _ _ ?_
        exact ends1 (reads_tmp rfl) ⟨rfl, hX⟩
      · refine c_seqreg (fun K39 hK39 => ?_)
        refine s_val rfl rfl (runs_move rfl) ?_
        refine s_val rfl rfl (runs_not rfl) ?_
        refine s_val rfl rfl (runs_move rfl) ?_
        refine s_val rfl rfl (runs_move rfl) ?_
        refine s_val rfl rfl (runs_not rfl) ?_
        refine s_val rfl rfl (runs_pickt rfl rfl) ?_
        refine s_val rfl rfl (runs_move rfl) ?_
        refine s_val rfl rfl (runs_move rfl) ?_
        refine s_val rfl rfl (runs_not rfl) ?_
        refine s_val rfl rfl (runs_move rfl) ?_
        refine s_val rfl rfl (runs_move rfl) ?_
        refine s_callf (xs := [.tmp 97]) rfl rfl Tryd.func20 rfl (by kernel_rfl) rfl (hT.clash hG (by omega) (fun x hx => by have := hLs x hx; omega)) ?_
        rintro _ wcl ⟨bc, rfl, hbc, Xcl⟩
        replace hG := hG.keep Xcl (by simp)
        replace hX : Chg w _ [] := (hX.trans Xcl).mono (by intro k hk hlt; simp at hk ⊢ <;> first | omega | grind)
        replace hH := hH.keep0 Xcl
        replace hb7 := hb7.keep Xcl (by simp)
        replace hT := hT.keep Xcl (by simp)
        have zs21_11 := Xcl.size
        obtain rfl := hbc.2 (hcl rfl)
        refine s_val rfl rfl (runs_pickf rfl rfl) ?_
        refine s_val rfl rfl (runs_pickt rfl rfl) ?_
        refine s_val rfl rfl (runs_assign rfl) ?_
        refine s_nil ?_
        refine hK39 _ _ ?_
        refine c_ret ?_
        refine hret _ _ ?_
        exact ends1 (reads_tmp rfl) ⟨rfl, hX⟩
end Go.Proofs.YtecpedpfkdnfhaaDoor
