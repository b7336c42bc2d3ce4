/- Part Wire0 of the proofs on this seat. Conditions: none beyond those in the theorems. By an AI agent. -/
import Derived.Test.YtmmijecookbajaaDoorNum
namespace Go.Proofs.YtmmijecookbajaaDoor
open Go Go.RowKit

theorem shr_byte (a k : Nat) (hk : k ≤ 63) : IntKind.u8.wrap ((a : Int).fdiv (2 ^ (min (k : Int).toNat 64))) = ((a / 2 ^ k % 256 : Nat) : Int) := by
  rw [wrap_u8, Int.toNat_natCast, show min k 64 = k by omega, show ((2 : Int) ^ k) = ((2 ^ k : Nat) : Int) by simp, Int.fdiv_eq_ediv_of_nonneg _ (Int.natCast_nonneg _)]
  simp
theorem numB_get (x : Nm) {i : Nat} (hi : i < 16) : (Sp.numB x)[i]? = some ((if i < 8 then x.1 else x.2) / 2 ^ (8 * (7 - i % 8)) % 256) := by
  unfold Sp.numB
  rw [List.getElem?_map, List.getElem?_range hi]; rfl
theorem own_ne {w : World} {B b n size : Nat} {e t : TypeId} {v : Value} {xs cs : List Value} (h : w.ownsRow B e size v n xs) (hb : Blk w b cs t) (hne : t ≠ e) : v.ownBlock ≠ some b := by
  intro hv
  rcases h.2 with ⟨rfl, _⟩ | ⟨g, cap, cur, rfl, _, hg, _⟩
  · simp [Value.ownBlock] at hv
  · simp only [Value.ownBlock, Option.some.injEq] at hv
    subst hv
    have := hg.symm.trans hb
    simp at this
    exact hne this.2.symm
theorem own_blk {w : World} {B n size : Nat} {e : TypeId} {v : Value} {xs : List Value} (h : w.ownsRow B e size v n xs) {k : Nat} (hk : v.ownBlock = some k) : B ≤ k ∧ k < w.heap.size ∧ ∃ cs, Blk w k cs e := by
  have hl := h.lt k hk
  refine ⟨hl.1, hl.2, ?_⟩
  rcases h.2 with ⟨rfl, _⟩ | ⟨g, cap, cur, rfl, _, hg, _⟩
  · simp [Value.ownBlock] at hk
  · simp only [Value.ownBlock, Option.some.injEq] at hk
    subst hk
    exact ⟨cur.toList, by unfold Blk; simpa using hg⟩
/-- The bytes that a slice owned has. -/
theorem own_bytes {w : World} {B n : Nat} {e : TypeId} {v : Value} {bs : List Nat} (h : w.ownsRow B e 1 v n (natsC .u8 bs)) : ∃ a c, v = .slice a n c ∧ Bytes w a n c bs ∧ v.ownBlock = a.map (·.block) := own_reads h

theorem u128Of_calls (k : Nat) (w : World) : CallsR Tryd.prog 25 #[.int .u64 (k : Int)] w fun v w' => v = nv (0, k) ∧ Chg w w' [] := by
  have hX : Chg w w [] := Chg.refl _ _
  refine f_enter (l := [.int .u64 (k : Int)]) Tryd.func25 rfl rfl rfl rfl ?_
  intro Qf hnrm hret
  refine c_seqreg (fun K1 hK1 => ?_)
  refine s_alloc ty24 rfl rfl ?_
  intro b2 w1 e0_0 z0_0 hb2 X0_0
  have s0_0_hX := hX.size
  replace hX : Chg w _ [] := (hX.trans X0_0).mono (by intro k hk hlt; simp at hk ⊢ <;> first | omega | grind)
  refine s_nil ?_
  refine hK1 _ _ ?_
  refine c_seqreg (fun K3 hK3 => ?_)
  refine s_val rfl rfl (runs_move rfl) ?_
  refine s_val rfl rfl (runs_buildv (v := nv (0, k)) [(1, .int .u64 (k : Int))] rfl (by kernel_rfl)) ?_
  refine s_storeAll ty24 rfl rfl rfl hb2 (numC_len (0, k)) rfl (numC_one _) ?_
  intro w2 z1_2 h1_2 X1_2
  replace hX : Chg w _ [] := (hX.trans X1_2).mono (by intro k hk hlt; simp at hk ⊢ <;> first | omega | grind)
  replace hb2 := h1_2
  refine s_nil ?_
  refine hK3 _ _ ?_
  refine c_ret ?_
  refine hret _ _ ?_
  exact ends1 (reads_cell ty24 rfl hb2.at (numC_len _)) ⟨rfl, hX⟩

set_option maxHeartbeats 1000000 in
theorem u128Bytes_calls (x : Nm) (w : World) (hx : NOk x) : CallsR Tryd.prog 36 #[nv x] w fun v w' => w'.ownsRow w.heap.size 5 1 v 16 (natsC .u8 (Sp.numB x)) ∧ Chg w w' [] := by
  have hX : Chg w w [] := Chg.refl _ _
  obtain ⟨hx1, hx2⟩ := hx
  refine f_enter (l := [nv x]) Tryd.func36 rfl rfl rfl rfl ?_
  intro Qf hnrm hret
  refine c_seqreg (fun K1 hK1 => ?_)
  refine s_box rfl rfl rfl ?_
  intro b1 w1 e0_0 z0_0 hb1 X0_0
  have s0_0_hX := hX.size
  replace hX : Chg w _ [] := (hX.trans X0_0).mono (by intro k hk hlt; simp at hk ⊢ <;> first | omega | grind)
  replace hb1 : Blk w1 b1 (numC x) 24 := hb1
  refine s_val rfl rfl (runs_assign rfl) ?_
  refine s_nil ?_
  refine hK1 _ _ ?_
  refine c_seqreg (fun K3 hK3 => ?_)
  refine s_make0 (c := 16) (w.heap.size) Tryd.underlying47 ty5 rfl rfl rfl rfl (by decide) (by decide) (by have := hX.size; omega) ?_
  intro v0 w2 hown X1_0 F1_0
  replace hX : Chg w _ [] := (hX.trans X1_0).mono (by intro k hk hlt; simp at hk ⊢ <;> first | omega | grind)
  replace hb1 := hb1.keep X1_0 (by simp)
  refine s_val rfl rfl (runs_assign rfl) ?_
  refine s_nil ?_
  refine hK3 _ _ ?_
  refine c_seq (fun K5 hK5 => ?_)
  refine c_seqreg (fun K6 hK6 => ?_)
  refine s_val rfl rfl (runs_assign rfl) ?_
  refine s_nil ?_
  refine hK6 _ _ ?_
  refine c_block ?_
  refine c_loop (σ := Nat × Value) (fun s => [(4, .int .i64 (15 - (s.1 : Int))), (3, s.2), (1, .pointer (some ⟨b1, 0, none⟩))]) (fun s w' => s.1 ≤ 16 ∧ w'.ownsRow w.heap.size 5 1 s.2 s.1 (natsC .u8 ((Sp.numB x).take s.1)) ∧ Blk w' b1 (numC x) 24 ∧ Chg w w' []) (fun s => 16 - s.1) (0, v0) ⟨rfl, rfl, rfl, trivial⟩ ⟨by omega, hown, hb1, hX⟩ ?_
  rintro ⟨i, v⟩ wi ⟨hi, hown, hb1, hX⟩
  dsimp only at hi hown ⊢
  have hzX := hX.size
  have hown0 := hown
  refine c_seq (fun K7 hK7 => ?_)
  refine c_seqreg (fun K8 hK8 => ?_)
  refine s_val rfl rfl (runs_move rfl) ?_
  refine s_val rfl rfl (runs_ge rfl rfl) ?_
  refine s_nil ?_
  refine hK8 _ _ ?_
  refine c_dec rfl (fun hge => ?_) (fun hge => ?_)
  · refine c_skip ?_
    refine hK7 _ _ ?_
    refine c_seq (fun K9 hK9 => ?_)
    refine c_block ?_
    refine c_seqreg (fun K10 hK10 => ?_)
    refine s_val rfl rfl (runs_fieldAddr Tryd.underlying24 rfl ty22 (by decide) rfl) ?_
    refine s_val rfl rfl (runs_load1 ty22 rfl (hb1.cell (o := 1) rfl)) ?_
    refine s_val rfl rfl (runs_assign rfl) ?_
    refine s_nil ?_
    refine hK10 _ _ ?_
    refine c_seq (fun K11 hK11 => ?_)
    refine c_seqreg (fun K12 hK12 => ?_)
    refine s_val rfl rfl (runs_move rfl) ?_
    refine s_val rfl rfl (runs_ge rfl rfl) ?_
    refine s_nil ?_
    refine hK12 _ _ ?_
    refine c_dec rfl (fun h8 => ?_) (fun h8 => ?_)
    · obtain ⟨y, hy⟩ : ∃ y, y = x.1 := ⟨_, rfl⟩
      have hyy : y = if i < 8 then x.1 else x.2 := by rw [if_pos (by omega)]; exact hy
      refine c_reg ?_
      refine s_val rfl rfl (runs_fieldAddr Tryd.underlying24 rfl ty22 (by decide) rfl) ?_
      refine s_val rfl rfl (runs_load1 ty22 rfl (hb1.cell (o := 0) rfl)) ?_
      refine s_val rfl rfl (runs_assign rfl) ?_
      refine s_nil ?_
      refine hK11 _ _ ?_
      refine c_reg ?_
      refine s_val rfl rfl (runs_move rfl) ?_
      refine s_val rfl rfl (runs_as (v' := .int .u64 (y : Int)) (runs_move rfl) (by rw [hy])) ?_
      refine s_val rfl rfl (runs_move rfl) ?_
      refine s_val rfl rfl (runs_as (v' := .int .i64 ((7 - i % 8 : Nat) : Int)) (runs_rem64 rfl rfl (by omega) (by omega)) (congrArg (Value.int .i64) (by omega))) ?_
      refine s_val rfl rfl (runs_as (v' := .int .i64 ((8 * (7 - i % 8) : Nat) : Int)) (runs_mul64 rfl rfl (by omega)) (congrArg (Value.int .i64) (by omega))) ?_
      refine s_val rfl rfl (runs_shr rfl rfl (by omega)) ?_
      refine s_val rfl rfl (runs_as (v' := .int .u8 ((y / 2 ^ (8 * (7 - i % 8)) % 256 : Nat) : Int)) (runs_conv Tryd.underlying22 Tryd.underlying5 rfl) (congrArg (Value.int .u8) (shr_byte y _ (by omega)))) ?_
      refine s_lit (xs := [.tmp 23]) Tryd.underlying47 ty5 rfl rfl rfl rfl rfl (by simp [Value.cells]) (by decide) (by decide) ?_
      intro b7 w87 e8_7 z8_7 hb7 X8_7
      have s8_7_hb1 := hb1.lt
      have s8_7_hX := hX.size
      replace hown := own_keep hown X8_7 (by simp)
      replace hb1 := hb1.keep X8_7 (by simp)
      replace hX : Chg w _ [] := (hX.trans X8_7).mono (by intro k hk hlt; simp at hk ⊢ <;> first | omega | grind)
      have hown0' := hown
      have hb1' := hb1
      refine s_append Tryd.underlying47 ty5 rfl (by decide) rfl rfl rfl hown rfl (lit_reads (m := 1) (size := 1) (cs := natsC .u8 [y / 2 ^ (8 * (7 - i % 8)) % 256]) hb7 rfl (by decide)) (natsC_one _ _) (by simp only [maxLen]; omega) (by omega) (by omega) ?_
      intro v9 w9 H8_8 X8_8 F8_8
      replace hb1 := hb1.keep X8_8 (fun hm => own_ne hown0' hb1' (by decide) (by simpa using hm))
      replace hX : Chg w _ [] := (hX.trans X8_8).mono (by intro k hk hlt; simp at hk; have := (hown0.lt k hk).1; omega)
      have hown := H8_8
      replace hown : w9.ownsRow w.heap.size 5 1 v9 (i + 1) (natsC .u8 ((Sp.numB x).take (i + 1))) := by
        rw [List.take_add_one, show (Sp.numB x)[i]? = some (y / 2 ^ (8 * (7 - i % 8)) % 256) by rw [hyy]; exact numB_get x (by omega), natsC_append]
        exact hown
      refine s_val rfl rfl (runs_assign rfl) ?_
      refine s_nil ?_
      refine hK9 _ _ ?_
      refine c_reg ?_
      refine s_val rfl rfl (runs_move rfl) ?_
      refine s_val rfl rfl (runs_as (v' := .int .i64 (15 - ((i + 1 : Nat) : Int))) (runs_sub64 rfl rfl (by omega)) (congrArg (Value.int .i64) (by omega))) ?_
      refine s_val rfl rfl (runs_assign rfl) ?_
      refine s_nil ?_
      dsimp only [Post.setN]
      exact ⟨(i + 1, v9), ⟨rfl, rfl, rfl, trivial⟩, ⟨by dsimp only; omega, hown, hb1, hX⟩, by dsimp only; omega⟩
    · obtain ⟨y, hy⟩ : ∃ y, y = x.2 := ⟨_, rfl⟩
      have hyy : y = if i < 8 then x.1 else x.2 := by rw [if_neg (by omega)]; exact hy
      refine c_skip ?_
      refine hK11 _ _ ?_
      refine c_reg ?_
      refine s_val rfl rfl (runs_move rfl) ?_
      refine s_val rfl rfl (runs_as (v' := .int .u64 (y : Int)) (runs_move rfl) (by rw [hy])) ?_
      refine s_val rfl rfl (runs_move rfl) ?_
      refine s_val rfl rfl (runs_as (v' := .int .i64 ((7 - i % 8 : Nat) : Int)) (runs_rem64 rfl rfl (by omega) (by omega)) (congrArg (Value.int .i64) (by omega))) ?_
      refine s_val rfl rfl (runs_as (v' := .int .i64 ((8 * (7 - i % 8) : Nat) : Int)) (runs_mul64 rfl rfl (by omega)) (congrArg (Value.int .i64) (by omega))) ?_
      refine s_val rfl rfl (runs_shr rfl rfl (by omega)) ?_
      refine s_val rfl rfl (runs_as (v' := .int .u8 ((y / 2 ^ (8 * (7 - i % 8)) % 256 : Nat) : Int)) (runs_conv Tryd.underlying22 Tryd.underlying5 rfl) (congrArg (Value.int .u8) (shr_byte y _ (by omega)))) ?_
      refine s_lit (xs := [.tmp 23]) Tryd.underlying47 ty5 rfl rfl rfl rfl rfl (by simp [Value.cells]) (by decide) (by decide) ?_
      intro b7 w87 e8_7 z8_7 hb7 X8_7
      have s8_7_hb1 := hb1.lt
      have s8_7_hX := hX.size
      replace hown := own_keep hown X8_7 (by simp)
      replace hb1 := hb1.keep X8_7 (by simp)
      replace hX : Chg w _ [] := (hX.trans X8_7).mono (by intro k hk hlt; simp at hk ⊢ <;> first | omega | grind)
      have hown0' := hown
      have hb1' := hb1
      refine s_append Tryd.underlying47 ty5 rfl (by decide) rfl rfl rfl hown rfl (lit_reads (m := 1) (size := 1) (cs := natsC .u8 [y / 2 ^ (8 * (7 - i % 8)) % 256]) hb7 rfl (by decide)) (natsC_one _ _) (by simp only [maxLen]; omega) (by omega) (by omega) ?_
      intro v9 w9 H8_8 X8_8 F8_8
      replace hb1 := hb1.keep X8_8 (fun hm => own_ne hown0' hb1' (by decide) (by simpa using hm))
      replace hX : Chg w _ [] := (hX.trans X8_8).mono (by intro k hk hlt; simp at hk; have := (hown0.lt k hk).1; omega)
      have hown := H8_8
      replace hown : w9.ownsRow w.heap.size 5 1 v9 (i + 1) (natsC .u8 ((Sp.numB x).take (i + 1))) := by
        rw [List.take_add_one, show (Sp.numB x)[i]? = some (y / 2 ^ (8 * (7 - i % 8)) % 256) by rw [hyy]; exact numB_get x (by omega), natsC_append]
        exact hown
      refine s_val rfl rfl (runs_assign rfl) ?_
      refine s_nil ?_
      refine hK9 _ _ ?_
      refine c_reg ?_
      refine s_val rfl rfl (runs_move rfl) ?_
      refine s_val rfl rfl (runs_as (v' := .int .i64 (15 - ((i + 1 : Nat) : Int))) (runs_sub64 rfl rfl (by omega)) (congrArg (Value.int .i64) (by omega))) ?_
      refine s_val rfl rfl (runs_assign rfl) ?_
      refine s_nil ?_
      dsimp only [Post.setN]
      exact ⟨(i + 1, v9), ⟨rfl, rfl, rfl, trivial⟩, ⟨by dsimp only; omega, hown, hb1, hX⟩, by dsimp only; omega⟩
  · refine c_exit ?_
    refine hK5 _ _ ?_
    refine c_seqreg (fun K17 hK17 => ?_)
    refine s_val rfl rfl (runs_move rfl) ?_
    refine s_val rfl rfl (runs_assign rfl) ?_
    refine s_nil ?_
    refine hK17 _ _ ?_
    refine c_ret ?_
    refine hret _ _ ?_
    obtain rfl : i = 16 := by omega
    exact ends1 (reads_tmp rfl) ⟨by rw [List.take_of_length_le (by rw [numB_len]; omega)] at hown; exact hown, hX⟩
end Go.Proofs.YtmmijecookbajaaDoor
