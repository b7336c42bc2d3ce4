/- Part REnds of the proofs on this seat. Conditions: none beyond those in the theorems. By an AI agent. -/
import Derived.Test.YtlkeofjgmegcfaaDoorRSpans
namespace Go.Proofs.YtlkeofjgmegcfaaDoor
open Go Go.RowKit

theorem mkR_at (ls : List Rw) {i : Nat} {r : Rw} (h : (Sp.mkR ls)[i]? = some r) : i < ls.length ∧ 1 ≤ r.time ∧ r.time ≤ 4 * ls.length := by
  have hi : i < ls.length := by have := (List.getElem?_eq_some_iff.1 h).1; rwa [mkR_len] at this
  have := mkR_time ls h
  have := tAt_le ls (i + 1) (by omega)
  omega
/-- What the five spans say. -/
theorem ends_law {rs : List Rw} {n cut i k j m i3 k3 i4 k4 i5 k5 : Nat} (hn : rs.length = n) (hn' : n ≤ 40) (ht : ∀ (i : Nat) (r : Rw), rs[i]? = some r → 1 ≤ r.time ∧ r.time ≤ 160)
    (h1 : SpanIs rs 0 (cut : Int) 100 i k) (h2 : SpanIs rs ((cut : Int) + 1) 1099511627776 100 j m) (h3 : SpanIs rs (cut : Int) ((cut : Int) - 1) 100 i3 k3) (h4 : SpanIs rs 0 1099511627776 0 i4 k4) (h5 : SpanIs rs 0 1099511627776 (-3) i5 k5) :
    i = 0 ∧ j = k ∧ k + m = n ∧ k3 = 0 ∧ k4 = 0 ∧ k5 = 0 := by
  have ex : ∀ i, i < n → ∃ r, rs[i]? = some r := fun i h => ⟨_, List.getElem?_eq_getElem (by omega)⟩
  have a1 := h1.i_le
  have a2 := h1.k_le
  have b1 := h2.i_le
  have b2 := h2.k_le
  have c2 := h3.k_le
  have i0 : i = 0 := by
    by_cases h : i = 0
    · exact h
    · obtain ⟨r, hr⟩ := ex 0 (by omega)
      have := h1.low 0 (by omega) r hr
      have := ht _ _ hr
      omega
  subst i0
  have jk : j = k := by
    by_cases h : j < k
    · obtain ⟨r, hr⟩ := ex j (by omega)
      have := h2.at_ r hr
      have := (h1.in_ j h).1 r (by rw [Nat.zero_add]; exact hr)
      omega
    · by_cases h' : k < j
      · obtain ⟨r, hr⟩ := ex k (by omega)
        have := h2.low k h' r hr
        have := h1.end_ r (by rw [Nat.zero_add]; exact hr)
        exact absurd ⟨by omega, by omega⟩ this
      · omega
  subst jk
  refine ⟨rfl, rfl, ?_, ?_, ?_, ?_⟩
  · by_cases h : j + m = n
    · exact h
    · obtain ⟨r, hr⟩ := ex (j + m) (by omega)
      have := ht _ _ hr
      exact absurd ⟨by omega, by omega⟩ (h2.end_ r hr)
  · by_cases h : k3 = 0
    · exact h
    · obtain ⟨r, hr⟩ := ex i3 (by omega)
      have h6 := (h3.in_ 0 (by omega)).1 r hr
      have := h3.at_ r hr
      omega
  · by_cases h : k4 = 0
    · exact h
    · have := (h4.in_ 0 (by omega)).2
      omega
  · by_cases h : k5 = 0
    · exact h
    · have := (h5.in_ 0 (by omega)).2
      omega
set_option maxHeartbeats 2000000 in
theorem ends_calls (B : Nat) (ls : List Rw) (a : Option Addr) (n c : Nat) (k : Int) (w : World) (hG0 : GH B w) (hBw : B ≤ w.heap.size) (hR : RowsR w a n c ls) :
    CallsR Tryd.prog 4 #[.slice a n c, .int .i64 k] w fun v w' => v = .bool true ∧ Chg w w' [] := by
  have hX : Chg w w [] := Chg.refl _ _
  have hG := hG0
  have hlen := hR.len
  refine f_enter (l := [.slice a n c, .int .i64 k]) Tryd.func4 rfl rfl rfl rfl ?_
  intro Qf hnrm hret
  refine c_seqreg (fun K1 hK1 => ?_)
  refine s_val rfl rfl (runs_assign rfl) ?_
  refine s_nil ?_
  refine hK1 _ _ ?_
  refine c_seq (fun K2 hK2 => ?_)
  refine c_seqreg (fun K3 hK3 => ?_)
  refine s_callf (xs := []) rfl rfl Tryd.func9 rfl (by kernel_rfl) rfl (fitR_calls B _ hG (by omega)) ?_
  rintro _ w1 ⟨rfl, X1_0, hG'⟩
  replace hG := hG.keep X1_0 (by simp)
  replace hX : Chg w _ [] := (hX.trans X1_0).mono (by intro k hk hlt; simp at hk ⊢ <;> first | omega | grind)
  have zs1_0 := X1_0.size
  refine s_val rfl rfl (runs_not rfl) ?_
  refine s_nil ?_
  refine hK3 _ _ ?_
  refine c_false rfl ?_
  refine c_skip ?_
  refine hK2 _ _ ?_
  refine c_seq (fun K5 hK5 => ?_)
  refine c_seqreg (fun K6 hK6 => ?_)
  refine s_val rfl rfl (runs_move rfl) ?_
  refine s_val rfl rfl (runs_len_slice Tryd.underlying22 rfl) ?_
  refine s_val rfl rfl (runs_gt rfl rfl) ?_
  refine s_nil ?_
  refine hK6 _ _ ?_
  refine c_dec rfl (fun h40 => ?_) (fun h40 => ?_)
  · refine c_seqreg (fun K7 hK7 => ?_)
    refine s_val rfl rfl (runs_assign rfl) ?_
    refine s_nil ?_
    refine hK7 _ _ ?_
    refine c_ret ?_
    refine hret _ _ ?_
    exact ends1 (reads_tmp rfl) ⟨rfl, hX⟩
  · refine c_skip ?_
    refine hK5 _ _ ?_
    refine c_seqreg (fun K8 hK8 => ?_)
    refine s_val rfl rfl (runs_move rfl) ?_
    refine s_callf (xs := [.tmp 21]) rfl rfl Tryd.func10 rfl (by kernel_rfl) rfl (list_calls B ls _ _ _ _ hG (by omega) (hR.grow hX) (by omega)) ?_
    rintro _ w5 ⟨bx, v1, v2, rfl, hL, X5_1, hG5⟩
    replace hG := hG.keep X5_1 (by simp)
    replace hX : Chg w _ [] := (hX.trans X5_1).mono (by intro k hk hlt; simp at hk ⊢ <;> first | omega | grind)
    have zs5_1 := X5_1.size
    have hlsl : (Sp.mkR ls).length = n := by rw [mkR_len, hlen]
    have hti := fun i r => mkR_at ls (i := i) (r := r)
    obtain ⟨rs, hrs⟩ : ∃ rs, rs = Sp.mkR ls := ⟨_, rfl⟩
    rw [← hrs] at hL hlsl hti
    obtain ⟨hxh, hhx⟩ : ∃ k, k = w5.heap.size := ⟨_, rfl⟩
    rw [← hhx] at hL
    refine s_val rfl rfl (runs_assign rfl) ?_
    refine s_nil ?_
    refine hK8 _ _ ?_
    refine c_seqreg (fun K10 hK10 => ?_)
    refine s_val rfl rfl (runs_move rfl) ?_
    refine s_val rfl rfl (runs_and64 255 rfl (by decide)) ?_
    refine s_val rfl rfl (runs_assign rfl) ?_
    refine s_nil ?_
    have hc255 := land64_le (a := k) (m := 255) (by decide)
    generalize land64 k 255 = cut at hc255 ⊢
    refine hK10 _ _ ?_
    refine c_seqreg (fun K11 hK11 => ?_)
    refine s_val rfl rfl (runs_move rfl) ?_
    refine s_val rfl rfl (runs_move rfl) ?_
    refine s_callf (xs := [.tmp 26, .const (.int .i64 0), .tmp 27, .const (.int .i64 100)]) rfl rfl Tryd.func11 rfl (by kernel_rfl) rfl (span_calls hL 0 cut 100 (by omega)) ?_
    rintro _ w6 ⟨i1, k1, rfl, hs1, rfl⟩
    have hi1 := hs1.i_le
    have hk1 := hs1.k_le
    refine s_val rfl rfl (runs_move rfl) ?_
    refine s_val rfl rfl (runs_extract rfl rfl) ?_
    refine s_val rfl rfl (runs_extract rfl rfl) ?_
    refine s_val rfl rfl (runs_assign rfl) ?_
    refine s_val rfl rfl (runs_assign rfl) ?_
    refine s_nil ?_
    refine hK11 _ _ ?_
    refine c_seqreg (fun K13 hK13 => ?_)
    refine s_val rfl rfl (runs_move rfl) ?_
    refine s_val rfl rfl (runs_move rfl) ?_
    refine s_val rfl rfl (runs_add64 rfl rfl (by omega)) ?_
    refine s_callf (xs := [.tmp 32, .tmp 34, .const (.int .i64 1099511627776), .const (.int .i64 100)]) rfl rfl Tryd.func11 rfl (by kernel_rfl) rfl (span_calls hL ((cut : Int) + 1) 1099511627776 100 (by omega)) ?_
    rintro _ w6 ⟨i2, k2, rfl, hs2, rfl⟩
    have hi2 := hs2.i_le
    have hk2 := hs2.k_le
    refine s_val rfl rfl (runs_move rfl) ?_
    refine s_val rfl rfl (runs_extract rfl rfl) ?_
    refine s_val rfl rfl (runs_extract rfl rfl) ?_
    refine s_val rfl rfl (runs_assign rfl) ?_
    refine s_val rfl rfl (runs_assign rfl) ?_
    refine s_nil ?_
    refine hK13 _ _ ?_
    refine c_seqreg (fun K15 hK15 => ?_)
    refine s_val rfl rfl (runs_move rfl) ?_
    refine s_val rfl rfl (runs_move rfl) ?_
    refine s_val rfl rfl (runs_move rfl) ?_
    refine s_val rfl rfl (runs_sub64 rfl rfl (by omega)) ?_
    refine s_callf (xs := [.tmp 39, .tmp 40, .tmp 42, .const (.int .i64 100)]) rfl rfl Tryd.func11 rfl (by kernel_rfl) rfl (span_calls hL (cut : Int) ((cut : Int) - 1) 100 (by omega)) ?_
    rintro _ w6 ⟨i3, k3, rfl, hs3, rfl⟩
    have hi3 := hs3.i_le
    have hk3 := hs3.k_le
    refine s_val rfl rfl (runs_move rfl) ?_
    refine s_val rfl rfl (runs_extract rfl rfl) ?_
    refine s_val rfl rfl (runs_extract rfl rfl) ?_
    refine s_val rfl rfl (runs_assign rfl) ?_
    refine s_val rfl rfl (runs_assign rfl) ?_
    refine s_nil ?_
    refine hK15 _ _ ?_
    refine c_seqreg (fun K17 hK17 => ?_)
    refine s_val rfl rfl (runs_move rfl) ?_
    refine s_callf (xs := [.tmp 47, .const (.int .i64 0), .const (.int .i64 1099511627776), .const (.int .i64 0)]) rfl rfl Tryd.func11 rfl (by kernel_rfl) rfl (span_calls hL 0 1099511627776 0 (by omega)) ?_
    rintro _ w6 ⟨i4, k4, rfl, hs4, rfl⟩
    have hi4 := hs4.i_le
    have hk4 := hs4.k_le
    refine s_val rfl rfl (runs_move rfl) ?_
    refine s_val rfl rfl (runs_extract rfl rfl) ?_
    refine s_val rfl rfl (runs_extract rfl rfl) ?_
    refine s_val rfl rfl (runs_assign rfl) ?_
    refine s_val rfl rfl (runs_assign rfl) ?_
    refine s_nil ?_
    refine hK17 _ _ ?_
    refine c_seqreg (fun K19 hK19 => ?_)
    refine s_val rfl rfl (runs_move rfl) ?_
    refine s_callf (xs := [.tmp 52, .const (.int .i64 0), .const (.int .i64 1099511627776), .const (.int .i64 (-3))]) rfl rfl Tryd.func11 rfl (by kernel_rfl) rfl (span_calls hL 0 1099511627776 (-3) (by omega)) ?_
    rintro _ w6 ⟨i5, k5, rfl, hs5, rfl⟩
    have hi5 := hs5.i_le
    have hk5 := hs5.k_le
    obtain ⟨l1, l2, l3, l4, l5, l6⟩ := ends_law hlsl (by omega) (fun i r h => by have := hti i r h; omega) hs1 hs2 hs3 hs4 hs5
    subst l1 l2 l4 l5 l6
    refine s_val rfl rfl (runs_move rfl) ?_
    refine s_val rfl rfl (runs_extract rfl rfl) ?_
    refine s_val rfl rfl (runs_extract rfl rfl) ?_
    refine s_val rfl rfl (runs_assign rfl) ?_
    refine s_val rfl rfl (runs_assign rfl) ?_
    refine s_nil ?_
    refine hK19 _ _ ?_
    refine c_seqreg (fun K21 hK21 => ?_)
    refine s_val rfl rfl (runs_move rfl) ?_
    refine s_val rfl rfl (runs_dt (runs_eqd rfl rfl) rfl) ?_
    refine s_val rfl rfl (runs_move rfl) ?_
    refine s_val rfl rfl (runs_move rfl) ?_
    refine s_val rfl rfl (runs_move rfl) ?_
    refine s_val rfl rfl (runs_dt (runs_eqd rfl rfl) rfl) ?_
    refine s_val rfl rfl (runs_pickt rfl rfl) ?_
    refine s_val rfl rfl (runs_move rfl) ?_
    refine s_val rfl rfl (runs_move rfl) ?_
    refine s_val rfl rfl (runs_move rfl) ?_
    refine s_val rfl rfl (runs_add64 rfl rfl (by omega)) ?_
    refine s_val rfl rfl (runs_move rfl) ?_
    refine s_val rfl rfl (runs_len_slice Tryd.underlying22 rfl) ?_
    refine s_val rfl rfl (runs_dt (runs_eqd rfl rfl) (by omega)) ?_
    refine s_val rfl rfl (runs_pickt rfl rfl) ?_
    refine s_val rfl rfl (runs_move rfl) ?_
    refine s_val rfl rfl (runs_move rfl) ?_
    refine s_val rfl rfl (runs_dt (runs_eqd rfl rfl) rfl) ?_
    refine s_val rfl rfl (runs_pickt rfl rfl) ?_
    refine s_val rfl rfl (runs_move rfl) ?_
    refine s_val rfl rfl (runs_move rfl) ?_
    refine s_val rfl rfl (runs_dt (runs_eqd rfl rfl) rfl) ?_
    refine s_val rfl rfl (runs_pickt rfl rfl) ?_
    refine s_val rfl rfl (runs_move rfl) ?_
    refine s_val rfl rfl (runs_move rfl) ?_
    refine s_val rfl rfl (runs_dt (runs_eqd rfl rfl) rfl) ?_
    refine s_val rfl rfl (runs_pickt rfl rfl) ?_
    refine s_val rfl rfl (runs_assign rfl) ?_
    refine s_nil ?_
    refine hK21 _ _ ?_
    refine c_ret ?_
    refine hret _ _ ?_
    exact ends1 (reads_tmp rfl) ⟨rfl, hX⟩
end Go.Proofs.YtlkeofjgmegcfaaDoor
