/- Part More of the proofs on this seat. Conditions: none beyond those in the theorems. By an AI agent. -/
import Derived.Test.YtecpedpfkdnfhaaDoorLaw2
namespace Go.Proofs.YtecpedpfkdnfhaaDoor
open Go Go.RowKit

set_option maxHeartbeats 4000000 in
theorem more_calls (B : Nat) (bss : List (List Nat)) (a : Option Addr) (n c : Nat) (bs : List Nat) (ab : Option Addr) (nb cb : Nat) (w : World) (hG0 : GH B w) (hBw : B ≤ w.heap.size) (hP : Parts w a n c bss) (hb : Bytes w ab nb cb bs) (hbl : ∀ x ∈ bs, x < 256) :
    CallsR Tryd.prog 11 #[.slice a n c, .slice ab nb cb] w fun v w' => v = .bool true ∧ Chg w w' [] := by
  have hlen := hP.length
  have hblen := hb.length
  have hX : Chg w w [] := Chg.refl _ _
  have hG := hG0
  refine f_enter (l := [.slice a n c, .slice ab nb cb]) Tryd.func11 rfl rfl rfl rfl ?_
  cases hL : Sp.light bss with
  | false =>
    intro Qf hnrm hret
    refine c_seqreg (fun K1 hK1 => ?_)
    refine s_val rfl rfl (runs_assign rfl) ?_
    refine s_nil ?_
    refine hK1 _ _ ?_
    refine c_seq (fun K2 hK2 => ?_)
    refine c_seqreg (fun K3 hK3 => ?_)
    refine s_callf (xs := []) rfl rfl Tryd.func12 rfl (by kernel_rfl) rfl (fit_calls B _ hG (by omega)) ?_
    rintro _ w1 ⟨rfl, X1_0⟩
    replace hG := hG.keep X1_0 (by simp)
    replace hX : Chg w _ [] := (hX.trans X1_0).mono (by intro k hk hlt; simp at hk ⊢ <;> first | omega | grind)
    have zs1_0 := X1_0.size
    refine s_val rfl rfl (runs_not rfl) ?_
    refine s_nil ?_
    refine hK3 _ _ ?_
    refine c_false rfl ?_
    refine c_skip ?_
    refine hK2 _ _ ?_
    refine c_seq (fun K5 hK5 => ?_)
    refine c_seqreg (fun K6 hK6 => ?_)
    refine s_val rfl rfl (runs_move rfl) ?_
    refine s_callf (xs := [.tmp 14]) rfl rfl Tryd.func13 rfl (by kernel_rfl) rfl (light_calls bss _ _ _ _ (hP.grow hX)) ?_
    rintro _ w3 ⟨rfl, X3_1⟩
    replace hG := hG.keep X3_1 (by simp)
    replace hX : Chg w _ [] := (hX.trans X3_1).mono (by intro k hk hlt; simp at hk ⊢ <;> first | omega | grind)
    have zs3_1 := X3_1.size
    rw [hL]
    refine s_val rfl rfl (runs_not rfl) ?_
    refine s_val rfl rfl (runs_move rfl) ?_
    refine s_skip rfl rfl ?_
    refine s_skip rfl rfl ?_
    refine s_skip rfl rfl ?_
    refine s_val rfl rfl (runs_pickt rfl rfl) ?_
    refine s_nil ?_
    refine hK6 _ _ ?_
    refine c_true rfl ?_
    refine c_seqreg (fun K8 hK8 => ?_)
    refine s_val rfl rfl (runs_assign rfl) ?_
    refine s_nil ?_
    refine hK8 _ _ ?_
    refine c_ret ?_
    refine hret _ _ ?_
    exact ends1 (reads_tmp rfl) ⟨rfl, hX⟩
  | true =>
    have hl1 := Sp.light_len hL
    have hl2 := Sp.light_each hL
    intro Qf hnrm hret
    refine c_seqreg (fun K1 hK1 => ?_)
    refine s_val rfl rfl (runs_assign rfl) ?_
    refine s_nil ?_
    refine hK1 _ _ ?_
    refine c_seq (fun K2 hK2 => ?_)
    refine c_seqreg (fun K3 hK3 => ?_)
    refine s_callf (xs := []) rfl rfl Tryd.func12 rfl (by kernel_rfl) rfl (fit_calls B _ hG (by omega)) ?_
    rintro _ w1 ⟨rfl, X1_0⟩
    replace hG := hG.keep X1_0 (by simp)
    replace hX : Chg w _ [] := (hX.trans X1_0).mono (by intro k hk hlt; simp at hk ⊢ <;> first | omega | grind)
    have zs1_0 := X1_0.size
    refine s_val rfl rfl (runs_not rfl) ?_
    refine s_nil ?_
    refine hK3 _ _ ?_
    refine c_false rfl ?_
    refine c_skip ?_
    refine hK2 _ _ ?_
    refine c_seq (fun K5 hK5 => ?_)
    refine c_seqreg (fun K6 hK6 => ?_)
    refine s_val rfl rfl (runs_move rfl) ?_
    refine s_callf (xs := [.tmp 14]) rfl rfl Tryd.func13 rfl (by kernel_rfl) rfl (light_calls bss _ _ _ _ (hP.grow hX)) ?_
    rintro _ w3 ⟨rfl, X3_1⟩
    replace hG := hG.keep X3_1 (by simp)
    replace hX : Chg w _ [] := (hX.trans X3_1).mono (by intro k hk hlt; simp at hk ⊢ <;> first | omega | grind)
    have zs3_1 := X3_1.size
    rw [hL]
    refine s_val rfl rfl (runs_not rfl) ?_
    refine s_val rfl rfl (runs_move rfl) ?_
    refine s_val rfl rfl (runs_move rfl) ?_
    refine s_val rfl rfl (runs_len_slice Tryd.underlying32 rfl) ?_
    refine s_val rfl rfl (runs_gt rfl rfl) ?_
    refine s_val rfl rfl (runs_pickf rfl rfl) ?_
    refine s_nil ?_
    refine hK6 _ _ ?_
    refine c_dec rfl (fun h0 => ?_) (fun h0 => ?_)
    · refine c_seqreg (fun K8 hK8 => ?_)
      refine s_val rfl rfl (runs_assign rfl) ?_
      refine s_nil ?_
      refine hK8 _ _ ?_
      refine c_ret ?_
      refine hret _ _ ?_
      exact ends1 (reads_tmp rfl) ⟨rfl, hX⟩
    · refine c_skip ?_
      refine hK5 _ _ ?_
      refine c_seqreg (fun K9 hK9 => ?_)
      refine s_val rfl rfl (runs_build_zeroS (xs := #[(0, 1)]) Tryd.underlying37 ty37 rfl (by kernel_rfl)) ?_
      refine s_box rfl rfl rfl ?_
      intro bt w5t e5_1 z5_1 hbt X5_1
      have s5_1_hX := hX.size
      replace hG := hG.keep X5_1 (by simp)
      replace hX : Chg w _ [] := (hX.trans X5_1).mono (by intro k hk hlt; simp at hk ⊢ <;> first | omega | grind)
      replace hbt : Blk w5t bt ([.slice none 0 0]) 37 := hbt
      have hlbt := hbt.lt
      have hT := TL.new (B := B) (lo := w.heap.size) hbt (by omega) (by omega)
      refine s_val rfl rfl (runs_assign rfl) ?_
      refine s_nil ?_
      refine hK9 _ _ ?_
      refine c_seqreg (fun K11 hK11 => ?_)
      refine s_val rfl rfl (runs_move rfl) ?_
      refine s_val rfl rfl (runs_move rfl) ?_
      refine s_callf (xs := [.tmp 24, .tmp 25]) rfl rfl Tryd.func19 rfl (by kernel_rfl) rfl (hT.noted hG (by omega) (hP.grow hX) hL (fun W x => hP.grow ((hX.trans x).mono (by intro k hk hlt; have h := hT.ft _ (by simpa using hk); simp [Rg] at h <;> omega))) (by simp <;> omega)) ?_
      rintro vh w7 ⟨hown, vt7, hC7⟩
      replace hG := hG.keep hC7.chg (fun k hk => by have h := hC7.ft k hk; simp [Rg] at h <;> omega)
      replace hX : Chg w _ [] := (hX.trans hC7.chg).mono (by intro k hk hlt; have h := hC7.ft k (by simpa using hk); simp [Rg] at h <;> omega)
      have zs6_2 := hC7.chg.size
      obtain ⟨hs, hhs⟩ : ∃ hs, hs = bss.map Sp.leaf := ⟨_, rfl⟩
      rw [← hhs] at hown
      have hsok : ∀ x ∈ hs, HOk x := by rw [hhs]; exact leaves_ok bss
      obtain ⟨ah, ch, rfl, hH, hob⟩ := own_hs hown hsok (by rw [hhs, List.length_map, hlen])
      obtain ⟨lh, hlh⟩ : ∃ lh, lh = (ah.map (·.block)).toList := ⟨_, rfl⟩
      have hah : ∀ p, ah = some p → p.block ∈ lh := fun p hp => by rw [hlh, hp]; simp
      have hlt7 : ∀ p, ah = some p → w.heap.size ≤ p.block ∧ p.block < w7.heap.size := fun p hp => by have := hown.lt p.block (by rw [hob, hp]; rfl); omega
      have hT := hC7.tl
      rw [hob, ← hlh, List.append_nil, List.nil_append] at hT
      have hsl : hs.length = n := hH.len
      have hcn := hH.rd.le
      refine s_val rfl rfl (runs_assign rfl) ?_
      refine s_nil ?_
      have hzX6 := hX.size
      refine hK11 _ _ ?_
      refine c_seqreg (fun K13 hK13 => ?_)
      refine s_val rfl rfl (runs_move rfl) ?_
      refine s_val rfl rfl (runs_move rfl) ?_
      refine s_callf (xs := [.tmp 27, .tmp 28]) rfl rfl Tryd.func15 rfl (by kernel_rfl) rfl (hT.root [] (by simp) hG (by omega) hH (fun p hp => .inr (by simp [hah p hp])) (by omega) (by simp <;> omega)) ?_
      rintro _ w72 ⟨rfl, vt72, hC72⟩
      replace hG := hG.keep hC72.chg (fun k hk => by have h := hC72.ft k hk; simp [Rg] at h <;> omega)
      replace hX : Chg w _ [] := (hX.trans hC72.chg).mono (by intro k hk hlt; have h := hC72.ft k (by simpa using hk); simp [Rg] at h <;> omega)
      replace hH := hH.keep hC72.chg (fun p hp hm => (hC72.ft _ hm).2.2 (by simp [hah p hp]))
      have zs7_2 := hC72.chg.size
      have hT := hC72.tl
      have hn1 := Sp.notes_le hs
      have hro := root_len hs hsok
      refine s_alloc ty28 rfl rfl ?_
      intro b7 w73a e7_3 z7_3 hb7 X7_3
      have s7_3_hX := hX.size
      replace hG := hG.keep X7_3 (by simp)
      replace hX : Chg w _ [] := (hX.trans X7_3).mono (by intro k hk hlt; simp at hk ⊢ <;> first | omega | grind)
      replace hH := hH.keep0 X7_3
      replace hT := hT.keep X7_3 (by simp)
      refine s_storeAll ty28 rfl rfl rfl hb7 (by rw [natsC_length, hro]) rfl (natsC_one _ _) ?_
      intro w73s z7_4 h7_4 X7_4
      replace hG := hG.keep X7_4 (by simp; omega)
      replace hX : Chg w _ [] := (hX.trans X7_4).mono (by intro k hk hlt; simp at hk ⊢ <;> first | omega | grind)
      replace hH := hH.keep X7_4 (fun p hp => by have := hlt7 p hp; simp; omega)
      replace hT := hT.keep X7_4 (by simp [Rg] <;> omega)
      replace hb7 := h7_4
      refine s_nil ?_
      have hl7 := hb7.lt
      have hzX7 := hX.size
      refine hK13 _ _ ?_
      refine c_seqreg (fun K17 hK17 => ?_)
      refine s_val rfl rfl (runs_move rfl) ?_
      refine s_append Tryd.underlying25 ty28 rfl (by decide) rfl rfl rfl (World.ownsRow_nil _ w73s.heap.size _ _) rfl hH.rd (natsC_one _ _) (by simp only [maxLen]; omega) (by omega) (by omega) ?_
      intro v8 w8 H8_1 X8_1 F8_1
      replace X8_1 : Chg _ _ [] := X8_1
      replace hG := hG.keep X8_1 (by simp)
      replace hX : Chg w _ [] := (hX.trans X8_1).mono (by intro k hk hlt; simp at hk ⊢ <;> first | omega | grind)
      replace hH := hH.keep0 X8_1
      replace hT := hT.keep X8_1 (by simp)
      replace hb7 := hb7.keep X8_1 (by simp)
      have hs8 := X8_1.size
      have hn8 : ∀ k, v8.ownBlock = some k → w73s.heap.size ≤ k ∧ k < w8.heap.size := fun k hk => H8_1.lt k hk
      obtain ⟨l8, hl8⟩ : ∃ l, l = v8.ownBlock.toList := ⟨_, rfl⟩
      have hin8 : ∀ k, v8.ownBlock = some k → k ∈ l8 := fun k hk => by rw [hl8, hk]; simp
      have hl8' : ∀ x ∈ l8, w73s.heap.size ≤ x ∧ x < w8.heap.size := fun x hx => by rw [hl8] at hx; exact hn8 x (by simpa using hx)
      refine s_val rfl rfl (runs_move rfl) ?_
      refine s_val rfl rfl (runs_move rfl) ?_
      refine s_callf (xs := [.tmp 32, .tmp 33]) rfl rfl Tryd.func18 rfl (by kernel_rfl) rfl (hT.leaf (b7 :: l8) (by intro x hx; simp only [List.mem_cons] at hx; rcases hx with rfl | hx; omega; have := hl8' x hx; omega) hG (by omega) (hb.grow hX) hbl (by omega) (by simp <;> omega)) ?_
      rintro _ w84 ⟨rfl, vt84, hC84⟩
      replace hG := hG.keep hC84.chg (fun k hk => by have h := hC84.ft k hk; simp [Rg] at h <;> omega)
      replace hX : Chg w _ [] := (hX.trans hC84.chg).mono (by intro k hk hlt; have h := hC84.ft k (by simpa using hk); simp [Rg] at h <;> omega)
      replace hH := hH.keep hC84.chg (fun p hp hm => (hC84.ft _ hm).2.2 (by simp [hah p hp]))
      replace hb7 := hb7.keep hC84.chg (fun hm => by have h := hC84.ft _ hm; simp [Rg] at h <;> omega)
      replace H8_1 := own_keep H8_1 hC84.chg (fun k hk hm => (hC84.ft _ hm).2.2 (by simp [hin8 k hk]))
      have zs8_4 := hC84.chg.size
      have hT := hC84.tl
      have okb := leaf_ok bs
      have hown0 := H8_1
      refine s_lit (xs := [.tmp 34]) Tryd.underlying25 ty28 rfl rfl rfl rfl rfl (hv_sz (l := [Sp.leaf bs]) (by simpa using okb)) (by decide) (by decide) ?_
      intro b85 w85 e8_5 z8_5 hb85 X8_5
      have s8_5_hX := hX.size
      have s8_5_hb7 := hb7.lt
      replace hG := hG.keep X8_5 (by simp)
      replace hX : Chg w _ [] := (hX.trans X8_5).mono (by intro k hk hlt; simp at hk ⊢ <;> first | omega | grind)
      replace hH := hH.keep0 X8_5
      replace hb7 := hb7.keep X8_5 (by simp)
      replace H8_1 := own_keep H8_1 X8_5 (by simp)
      replace hT := hT.keep X8_5 (by simp)
      refine s_append Tryd.underlying25 ty28 rfl (by decide) rfl rfl rfl H8_1 rfl (hs_lit [Sp.leaf bs] hb85 (by simpa using okb) rfl).rd (natsC_one _ _) (by simp only [maxLen]; omega) (by omega) (by omega) ?_
      intro v9 w9 H8_6 X8_6 F8_6
      replace hG := hG.keep X8_6 (fun k hm => by have := hn8 k (by simpa using hm); omega)
      replace hX : Chg w _ [] := (hX.trans X8_6).mono (by intro k hk hlt; have := hn8 k (by simpa using hk); omega)
      replace hH := hH.keep X8_6 (fun p hp hm => by have := hlt7 p hp; have := hn8 _ (by simpa using hm); omega)
      replace hb7 := hb7.keep X8_6 (fun hm => by have := hn8 _ (by simpa using hm); omega)
      replace hT := hT.keep X8_6 (fun k hk h => h.2.2 (by simp [hin8 k (by simpa using hk)]))
      have hs9o := H8_6
      have hs9 := X8_6.size
      obtain ⟨gs, hgs⟩ : ∃ gs, gs = hs ++ [Sp.leaf bs] := ⟨_, rfl⟩
      have hgok : ∀ x ∈ gs, HOk x := fun x hx => by rw [hgs] at hx; rcases List.mem_append.1 hx with hx | hx; exact hsok x hx; simp at hx; subst hx; exact okb
      have hgl : gs.length = n + 1 := by rw [hgs, List.length_append, hsl]; rfl
      obtain ⟨g9, c9, rfl, hB9, hg9⟩ := hsb_of_own (hs := gs) (n := n + 1) (by rw [hgs, List.flatten_append, natsC_append]; simpa using hs9o) hgok hgl (by omega)
      have hl9 := hB9.lt
      have hc9 := hB9.le
      have hF9 : g9 ∈ l8 ∨ w85.heap.size ≤ g9 := (F8_6 g9 rfl).imp (fun h => hin8 _ h) id
      replace hT := hT.set (g9 :: b7 :: lh) (by
        intro x hx; simp only [List.mem_cons] at hx
        rcases hx with h1 | h1 | h1
        · subst h1; exact hF9.imp (fun h => by simp [h]) (fun h => ⟨by omega, hl9⟩)
        · left; simp [h1]
        · left; simp [h1])
      refine s_val rfl rfl (runs_assign rfl) ?_
      refine s_nil ?_
      have hzX8 := hX.size
      refine hK17 _ _ ?_
      refine c_seqreg (fun K22 hK22 => ?_)
      refine s_val rfl rfl (runs_move rfl) ?_
      refine s_val rfl rfl (runs_move rfl) ?_
      refine s_callf (xs := [.tmp 37, .tmp 38]) rfl rfl Tryd.func15 rfl (by kernel_rfl) rfl (hT.root [] (by simp) hG (by omega) hB9.rd (fun p hp => by cases hp; exact .inr (by simp)) (by omega) (by simp <;> omega)) ?_
      rintro _ w92 ⟨rfl, vt92, hC92⟩
      replace hG := hG.keep hC92.chg (fun k hk => by have h := hC92.ft k hk; simp [Rg] at h <;> omega)
      replace hX : Chg w _ [] := (hX.trans hC92.chg).mono (by intro k hk hlt; have h := hC92.ft k (by simpa using hk); simp [Rg] at h <;> omega)
      replace hH := hH.keep hC92.chg (fun p hp hm => (hC92.ft _ hm).2.2 (by simp [hah p hp]))
      replace hb7 := hb7.keep hC92.chg (fun hm => by have h := hC92.ft _ hm; simp [Rg] at h <;> omega)
      replace hB9 := hB9.keep hC92.chg (fun hm => by have h := hC92.ft _ hm; simp [Rg] at h <;> omega)
      have zs9_2 := hC92.chg.size
      have hT := hC92.tl
      have hso := root_len gs hgok
      refine s_alloc ty28 rfl rfl ?_
      intro b9 w93a e9_3 z9_3 hb9 X9_3
      have s9_3_hX := hX.size
      have s9_3_hb7 := hb7.lt
      replace hG := hG.keep X9_3 (by simp)
      replace hX : Chg w _ [] := (hX.trans X9_3).mono (by intro k hk hlt; simp at hk ⊢ <;> first | omega | grind)
      replace hH := hH.keep0 X9_3
      replace hb7 := hb7.keep X9_3 (by simp)
      replace hB9 := hB9.keep X9_3 (by simp)
      replace hT := hT.keep X9_3 (by simp)
      refine s_storeAll ty28 rfl rfl rfl hb9 (by rw [natsC_length, hso]) rfl (natsC_one _ _) ?_
      intro w93s z9_4 h9_4 X9_4
      replace hG := hG.keep X9_4 (by simp; omega)
      replace hX : Chg w _ [] := (hX.trans X9_4).mono (by intro k hk hlt; simp at hk ⊢ <;> first | omega | grind)
      replace hH := hH.keep X9_4 (fun p hp => by have := hlt7 p hp; simp; omega)
      replace hb7 := hb7.keep X9_4 (by simp; omega)
      replace hB9 := hB9.keep X9_4 (by simp; omega)
      replace hT := hT.keep X9_4 (by simp [Rg] <;> omega)
      replace hb9 := h9_4
      refine s_nil ?_
      have hl9b := hb9.lt
      have hzX9 := hX.size
      have hro' := root_ok _ _ (Nat.le_refl _) hsok
      have hso' := root_ok _ _ (Nat.le_refl _) hgok
      refine hK22 _ _ ?_
      refine c_seqreg (fun K26 hK26 => ?_)
      refine s_val rfl rfl (runs_move rfl) ?_
      refine s_val rfl rfl (runs_len_slice Tryd.underlying25 rfl) ?_
      refine s_val rfl rfl (runs_move rfl) ?_
      refine s_callf (xs := [.const (.pointer none), .tmp 42, .tmp 43]) rfl rfl Tryd.func24 rfl (by kernel_rfl) rfl (grows_calls B n gs _ (n + 1) _ _ hG (by omega) hB9.rd (by omega) (by omega)) ?_
      rintro _ w10 ⟨vp, rfl, hovp, X10_3⟩
      replace hG := hG.keep X10_3 (by simp)
      replace hX : Chg w _ [] := (hX.trans X10_3).mono (by intro k hk hlt; simp at hk ⊢ <;> first | omega | grind)
      replace hH := hH.keep0 X10_3
      replace hb7 := hb7.keep X10_3 (by simp)
      replace hB9 := hB9.keep X10_3 (by simp)
      replace hT := hT.keep X10_3 (by simp)
      replace hb9 := hb9.keep X10_3 (by simp)
      have zs10_3 := X10_3.size
      obtain ⟨p, hp⟩ : ∃ p, p = Sp.grown n gs := ⟨_, rfl⟩
      rw [← hp] at hovp
      have okp : ∀ x ∈ p, HOk x := by rw [hp]; exact grown_ok n gs (by omega) hgok
      obtain ⟨ap, cp, rfl, hHp, hobp⟩ := own_hs hovp okp rfl
      have hltp : ∀ q, ap = some q → q.block < w10.heap.size := fun q hq => (hovp.lt q.block (by rw [hobp, hq]; rfl)).2
      have hpl : p.length ≤ n + 2 := by have := grown_len n gs (by omega); rw [hp]; omega
      have htk : gs.take n = hs := by rw [hgs, List.take_append_of_le_length (by omega), List.take_of_length_le (by omega)]
      have hshow : Sp.isGrown n (n + 1) (Sp.root hs) (Sp.root gs) p = true := by have := grown_shows gs n (by omega); rw [htk, hgl, ← hp] at this; exact this
      have hcl : Sp.root hs = Sp.root gs → Sp.Clash (bss.map (0 :: ·) ++ Sp.notes hs ++ [0 :: bs] ++ Sp.notes gs) := by
        intro hr
        refine (roots_coll _ hs gs (bss.map (0 :: ·) ++ [0 :: bs]) (Nat.le_refl _) ?_ ?_ hr (fun e => by rw [e] at hsl; omega)).mono fun z hz => ?_
        · intro e he; rw [hhs] at he; obtain ⟨b, hb', rfl⟩ := List.mem_map.1 he; exact ⟨b, rfl, by simp [hb']⟩
        · intro e he; rw [hgs, hhs] at he; rcases List.mem_append.1 he with he | he
          · obtain ⟨b, hb', rfl⟩ := List.mem_map.1 he; exact ⟨b, rfl, by simp [hb']⟩
          · simp at he; exact ⟨bs, he, by simp⟩
        · simp only [List.mem_append] at hz ⊢; rcases hz with ((hz | hz) | hz) | hz <;> simp [hz]
      refine s_val rfl rfl (runs_move rfl) ?_
      refine s_val rfl rfl (runs_extract rfl rfl) ?_
      refine s_val rfl rfl (runs_extract rfl rfl) ?_
      refine s_val rfl rfl (runs_assign rfl) ?_
      refine s_val rfl rfl (runs_assign rfl) ?_
      refine s_nil ?_
      refine hK26 _ _ ?_
      by_cases hr : Sp.root hs = Sp.root gs
      · refine c_seqreg (fun K28 hK28 => ?_)
        refine s_val rfl rfl (runs_move rfl) ?_
        refine s_val rfl rfl (runs_move rfl) ?_
        refine s_val rfl rfl (runs_loadAgg ty28 rfl hb7.at (by rw [natsC_length, hro])) ?_
        refine s_val rfl rfl (runs_loadAgg ty28 rfl hb9.at (by rw [natsC_length, hso])) ?_
        refine s_val rfl rfl (runs_df (runs_hv_ne rfl rfl hro' hso') (fun h => h hr)) ?_
        refine s_val rfl rfl (runs_move rfl) ?_
        refine s_val rfl rfl (runs_move rfl) ?_
        refine s_callf (xs := [.tmp 53]) rfl rfl Tryd.func20 rfl (by kernel_rfl) rfl (hT.clash hG (by omega) (by
            intro x hx
            simp only [List.mem_append] at hx
            have h65 := notes_short _ hs (Nat.le_refl _) hsok x
            have h65' := notes_short _ gs (Nat.le_refl _) hgok x
            have h101 := leaves_short hl2 x
            rcases hx with ((hx | hx) | hx) | hx
            · have := h101 hx; omega
            · have := h65 hx; omega
            · simp at hx; subst hx; simp; omega
            · have := h65' hx; omega)) ?_
        rintro _ wcl ⟨bc, rfl, hbc, Xcl⟩
        replace hG := hG.keep Xcl (by simp)
        replace hX : Chg w _ [] := (hX.trans Xcl).mono (by intro k hk hlt; simp at hk ⊢ <;> first | omega | grind)
        replace hH := hH.keep0 Xcl
        replace hb7 := hb7.keep Xcl (by simp)
        replace hB9 := hB9.keep Xcl (by simp)
        replace hT := hT.keep Xcl (by simp)
        replace hb9 := hb9.keep Xcl (by simp)
        replace hHp := hHp.keep0 Xcl
        have zs11_7 := Xcl.size
        obtain rfl := hbc.2 (hcl hr)
        refine s_val rfl rfl (runs_pickf rfl rfl) ?_
        refine s_val rfl rfl (runs_pickt rfl rfl) ?_
        refine s_val rfl rfl (runs_move rfl) ?_
        refine s_val rfl rfl (runs_move rfl) ?_
        refine s_val rfl rfl (runs_len_slice Tryd.underlying25 rfl) ?_
        refine s_val rfl rfl (runs_move rfl) ?_
        refine s_val rfl rfl (runs_len_slice Tryd.underlying25 rfl) ?_
        refine s_val rfl rfl (runs_loadAgg ty28 rfl hb7.at (by rw [natsC_length, hro])) ?_
        refine s_val rfl rfl (runs_loadAgg ty28 rfl hb9.at (by rw [natsC_length, hso])) ?_
        refine s_val rfl rfl (runs_move rfl) ?_
        refine s_callf (xs := [.const (.pointer none), .tmp 59, .tmp 61, .tmp 62, .tmp 63, .tmp 64]) rfl rfl Tryd.func26 rfl (by kernel_rfl) rfl (grown0 (m := n) (n := n + 1) hG (by omega) hro' hso' hHp (fun q hq _ => by have := hltp q hq; omega) (by omega) (by omega) (by omega)) ?_
        rintro _ w1118 ⟨rfl, X11_18⟩
        replace hG := hG.keep X11_18 (by simp)
        replace hX : Chg w _ [] := (hX.trans X11_18).mono (by intro k hk hlt; simp at hk ⊢ <;> first | omega | grind)
        replace hH := hH.keep0 X11_18
        replace hb7 := hb7.keep X11_18 (by simp)
        replace hB9 := hB9.keep X11_18 (by simp)
        replace hT := hT.keep X11_18 (by simp)
        replace hb9 := hb9.keep X11_18 (by simp)
        replace hHp := hHp.keep0 X11_18
        have zs11_18 := X11_18.size
        rw [hshow]
        refine s_val rfl rfl (runs_pickt rfl rfl) ?_
        refine s_val rfl rfl (runs_move rfl) ?_
        refine s_val rfl rfl (runs_move rfl) ?_
        refine s_val rfl rfl (runs_len_slice Tryd.underlying25 rfl) ?_
        refine s_val rfl rfl (runs_move rfl) ?_
        refine s_val rfl rfl (runs_len_slice Tryd.underlying25 rfl) ?_
        refine s_val rfl rfl (runs_loadAgg ty28 rfl hb9.at (by rw [natsC_length, hso])) ?_
        refine s_val rfl rfl (runs_loadAgg ty28 rfl hb7.at (by rw [natsC_length, hro])) ?_
        refine s_val rfl rfl (runs_move rfl) ?_
        refine s_callf (xs := [.const (.pointer none), .tmp 69, .tmp 71, .tmp 72, .tmp 73, .tmp 74]) rfl rfl Tryd.func26 rfl (by kernel_rfl) rfl (grown_bad _ (n + 1) n _ _ _ _ _ _ (by omega) (by omega)) ?_
        rintro _ w1128 ⟨rfl, X11_28⟩
        replace hG := hG.keep X11_28 (by simp)
        replace hX : Chg w _ [] := (hX.trans X11_28).mono (by intro k hk hlt; simp at hk ⊢ <;> first | omega | grind)
        replace hH := hH.keep0 X11_28
        replace hb7 := hb7.keep X11_28 (by simp)
        replace hB9 := hB9.keep X11_28 (by simp)
        replace hT := hT.keep X11_28 (by simp)
        replace hb9 := hb9.keep X11_28 (by simp)
        replace hHp := hHp.keep0 X11_28
        have zs11_28 := X11_28.size
        refine s_val rfl rfl (runs_not rfl) ?_
        refine s_val rfl rfl (runs_pickt rfl rfl) ?_
        refine s_val rfl rfl (runs_assign rfl) ?_
        refine s_nil ?_
        refine hK28 _ _ ?_
        refine c_ret ?_
        refine hret _ _ ?_
        exact ends1 (reads_tmp rfl) ⟨rfl, hX⟩
      · refine c_seqreg (fun K28 hK28 => ?_)
        refine s_val rfl rfl (runs_move rfl) ?_
        refine s_val rfl rfl (runs_move rfl) ?_
        refine s_val rfl rfl (runs_loadAgg ty28 rfl hb7.at (by rw [natsC_length, hro])) ?_
        refine s_val rfl rfl (runs_loadAgg ty28 rfl hb9.at (by rw [natsC_length, hso])) ?_
        refine s_val rfl rfl (runs_dt (runs_hv_ne rfl rfl hro' hso') hr) ?_
        refine s_val rfl rfl (runs_move rfl) ?_
        refine s_skip rfl rfl ?_
        refine s_skip rfl rfl ?_
        refine s_val rfl rfl (runs_pickt rfl rfl) ?_
        refine s_val rfl rfl (runs_pickt rfl rfl) ?_
        refine s_val rfl rfl (runs_move rfl) ?_
        refine s_val rfl rfl (runs_move rfl) ?_
        refine s_val rfl rfl (runs_len_slice Tryd.underlying25 rfl) ?_
        refine s_val rfl rfl (runs_move rfl) ?_
        refine s_val rfl rfl (runs_len_slice Tryd.underlying25 rfl) ?_
        refine s_val rfl rfl (runs_loadAgg ty28 rfl hb7.at (by rw [natsC_length, hro])) ?_
        refine s_val rfl rfl (runs_loadAgg ty28 rfl hb9.at (by rw [natsC_length, hso])) ?_
        refine s_val rfl rfl (runs_move rfl) ?_
        refine s_callf (xs := [.const (.pointer none), .tmp 59, .tmp 61, .tmp 62, .tmp 63, .tmp 64]) rfl rfl Tryd.func26 rfl (by kernel_rfl) rfl (grown0 (m := n) (n := n + 1) hG (by omega) hro' hso' hHp (fun q hq _ => by have := hltp q hq; omega) (by omega) (by omega) (by omega)) ?_
        rintro _ w1118 ⟨rfl, X11_18⟩
        replace hG := hG.keep X11_18 (by simp)
        replace hX : Chg w _ [] := (hX.trans X11_18).mono (by intro k hk hlt; simp at hk ⊢ <;> first | omega | grind)
        replace hH := hH.keep0 X11_18
        replace hb7 := hb7.keep X11_18 (by simp)
        replace hB9 := hB9.keep X11_18 (by simp)
        replace hT := hT.keep X11_18 (by simp)
        replace hb9 := hb9.keep X11_18 (by simp)
        replace hHp := hHp.keep0 X11_18
        have zs11_18 := X11_18.size
        rw [hshow]
        refine s_val rfl rfl (runs_pickt rfl rfl) ?_
        refine s_val rfl rfl (runs_move rfl) ?_
        refine s_val rfl rfl (runs_move rfl) ?_
        refine s_val rfl rfl (runs_len_slice Tryd.underlying25 rfl) ?_
        refine s_val rfl rfl (runs_move rfl) ?_
        refine s_val rfl rfl (runs_len_slice Tryd.underlying25 rfl) ?_
        refine s_val rfl rfl (runs_loadAgg ty28 rfl hb9.at (by rw [natsC_length, hso])) ?_
        refine s_val rfl rfl (runs_loadAgg ty28 rfl hb7.at (by rw [natsC_length, hro])) ?_
        refine s_val rfl rfl (runs_move rfl) ?_
        refine s_callf (xs := [.const (.pointer none), .tmp 69, .tmp 71, .tmp 72, .tmp 73, .tmp 74]) rfl rfl Tryd.func26 rfl (by kernel_rfl) rfl (grown_bad _ (n + 1) n _ _ _ _ _ _ (by omega) (by omega)) ?_
        rintro _ w1128 ⟨rfl, X11_28⟩
        replace hG := hG.keep X11_28 (by simp)
        replace hX : Chg w _ [] := (hX.trans X11_28).mono (by intro k hk hlt; simp at hk ⊢ <;> first | omega | grind)
        replace hH := hH.keep0 X11_28
        replace hb7 := hb7.keep X11_28 (by simp)
        replace hB9 := hB9.keep X11_28 (by simp)
        replace hT := hT.keep X11_28 (by simp)
        replace hb9 := hb9.keep X11_28 (by simp)
        replace hHp := hHp.keep0 X11_28
        have zs11_28 := X11_28.size
        refine s_val rfl rfl (runs_not rfl) ?_
        refine s_val rfl rfl (runs_pickt rfl rfl) ?_
        refine s_val rfl rfl (runs_assign rfl) ?_
        refine s_nil ?_
        refine hK28 _ _ ?_
        refine c_ret ?_
        refine hret _ _ ?_
        exact ends1 (reads_tmp rfl) ⟨rfl, hX⟩
end Go.Proofs.YtecpedpfkdnfhaaDoor
