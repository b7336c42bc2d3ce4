/- The function sum of the package sha answers as the specification says. Conditions: none beyond those in the theorems. By an AI agent. -/
import Derived.Test.YtmmijecookbajaaDoorSha
namespace Go.Proofs.YtmmijecookbajaaDoor
open Go Go.RowKit

/-! sum -/
/-- The tables of sha, below block B. -/
structure GS (B : Nat) (w : World) : Prop where
  start : At w 3 0 (natsC .u32 Sp.h0)
  rounds : At w 4 0 (natsC .u32 Sp.ks)
  lt1 : 3 < B
  lt2 : 4 < B
theorem GS.keep {B : Nat} {w w' : World} {M : List Nat} (h : GS B w) (x : Chg w w' M) (hM : ∀ k ∈ M, B ≤ k) : GS B w' :=
  ⟨h.start.keep x (fun hm => by have := hM _ hm; have := h.lt1; omega), h.rounds.keep x (fun hm => by have := hM _ hm; have := h.lt2; omega), h.lt1, h.lt2⟩
theorem GS.keep0 {B : Nat} {w w' : World} (h : GS B w) (x : Chg w w' []) : GS B w' := h.keep x (by simp)

theorem pad_length (b : List Nat) : ∃ q, (Sp.pad b).length = 64 * q := by
  refine ⟨(b.length + 1 + Sp.zeros b.length + 8) / 64, ?_⟩
  simp only [Sp.pad, Sp.zeros, List.length_append, List.length_replicate, List.length_map, List.length_cons, List.length_nil]
  omega
theorem pad_lt (b : List Nat) (hb : ∀ x ∈ b, x < 256) : ∀ x ∈ Sp.pad b, x < 256 := by
  intro x hx
  simp only [Sp.pad, List.mem_append, List.mem_singleton, List.mem_replicate, List.mem_map] at hx
  rcases hx with ((hx | rfl) | ⟨_, rfl⟩) | ⟨i, _, rfl⟩
  · exact hb x hx
  · decide
  · decide
  · exact Nat.mod_lt _ (by decide)
theorem add8_length (s t : List Nat) : (Sp.add8 s t).length = min s.length t.length := by simp [Sp.add8]
theorem block_ok (s b : List Nat) (h : s.length = 8) (hl : ∀ x ∈ s, x < 4294967296) : (Sp.block s b).length = 8 ∧ ∀ x ∈ Sp.block s b, x < 4294967296 := by
  obtain ⟨_, _, _, _, _, _, _, _, hR, _⟩ := rounds_eight s (Sp.more (Sp.first b 16) 48) h hl 64
  refine ⟨by rw [Sp.block, add8_length, hR, h]; rfl, ?_⟩
  intro x hx
  simp only [Sp.block, Sp.add8] at hx
  obtain ⟨i, hi, rfl⟩ := List.getElem_of_mem hx
  simp only [List.getElem_zipWith]
  exact Nat.mod_lt _ (by decide)
theorem h0_lt : ∀ x ∈ Sp.h0, x < 4294967296 := by decide
theorem blocks_ok (b : List Nat) (i : Nat) : (Sp.blocks Sp.h0 b i).length = 8 ∧ ∀ x ∈ Sp.blocks Sp.h0 b i, x < 4294967296 := by
  induction i with
  | zero => exact ⟨rfl, h0_lt⟩
  | succ i ih => exact block_ok _ _ ih.1 ih.2
theorem out_length (s : List Nat) : (Sp.out s).length = 32 := by simp [Sp.out]
theorem sha_length (b : List Nat) : (Sp.sha b).length = 32 := out_length _
theorem sha_lt (b : List Nat) : ∀ x ∈ Sp.sha b, x < 256 := by
  intro x hx
  simp only [Sp.sha, Sp.out, List.mem_map] at hx
  obtain ⟨i, _, rfl⟩ := hx
  exact Nat.mod_lt _ (by decide)
theorem i64_eq {a b : Int} (h : a = b) : (some (.int .i64 a) : Option Value) = some (.int .i64 b) := by rw [h]
def tail8 (n i : Nat) : List Nat := ([7, 6, 5, 4, 3, 2, 1, 0].take i).map fun j => (n * 8) / 2 ^ (8 * j) % 256
theorem tail8_succ (n i : Nat) (h : i < 8) : tail8 n (i + 1) = tail8 n i ++ [(n * 8) / 2 ^ (8 * (7 - i)) % 256] := by
  match i, h with
  | 0, _ | 1, _ | 2, _ | 3, _ | 4, _ | 5, _ | 6, _ | 7, _ => rfl
theorem pad_eq (bs : List Nat) (h : bs.length * 8 ≤ 18446744073709551615) : bs ++ [128] ++ List.replicate (Sp.zeros bs.length) 0 ++ tail8 bs.length 8 = Sp.pad bs := by
  unfold Sp.pad tail8
  rw [Nat.mod_eq_of_lt (by omega)]
  rfl

set_option maxHeartbeats 1000000 in
set_option maxRecDepth 4000 in
theorem sum_calls (B : Nat) (bs : List Nat) (a : Option Addr) (n c : Nat) (w : World) (hG : GS B w) (hBw : B ≤ w.heap.size) (hb : Bytes w a n c bs) (hbl : ∀ x ∈ bs, x < 256) (hn : n ≤ 1099511627776) :
    CallsR Tryd.prog 27 #[.slice a n c] w fun v w' => v = .agg (natsC .u8 (Sp.sha bs)).toArray ∧ Chg w w' [] := by
  have hbs := hb.length
  have hB : Below w.heap.size w w := Below.refl _ _
  refine f_enter (l := [.slice a n c]) Tryd.func27 rfl rfl rfl rfl ?_
  intro Qf hnrm hret
  refine c_seqreg (fun K1 hK1 => ?_)
  refine s_alloc ty26 rfl rfl ?_
  intro b2 w1 e0_0 z0_0 hb2 X0_0
  have s0_0_hB := hB.size
  replace hB := Below.chg hB hB.size X0_0 (by simp)
  replace hG := hG.keep X0_0 (by simp)
  replace hb := hb.keep X0_0 (by simp)
  refine s_nil ?_
  refine hK1 _ _ ?_
  refine c_seqreg (fun K3 hK3 => ?_)
  refine s_val rfl rfl (runs_move rfl) ?_
  refine s_val rfl rfl (runs_len_slice Tryd.underlying47 rfl) ?_
  refine s_val rfl rfl (runs_conv64 Tryd.underlying3 Tryd.underlying22 rfl (by omega)) ?_
  refine s_val rfl rfl (runs_mul64u (b := 8) rfl rfl (by omega)) ?_
  refine s_val rfl rfl (runs_assign rfl) ?_
  refine s_nil ?_
  refine hK3 _ _ ?_
  refine c_seqreg (fun K4 hK4 => ?_)
  refine s_val rfl rfl (runs_move rfl) ?_
  refine s_append Tryd.underlying47 ty5 rfl (by decide) rfl rfl rfl (World.ownsRow_nil _ (b2 + 1) 5 1) rfl hb (natsC_one _ _) (by simp only [maxLen]; omega) (by omega) (by omega) ?_
  intro v2_1 w2_1 H2_1 X2_1 F2_1
  replace X2_1 : Chg _ _ [] := X2_1
  replace hB := Below.chg hB hB.size X2_1 (by simp)
  replace hG := hG.keep X2_1 (by simp)
  replace hb2 := hb2.keep X2_1 (by simp)
  have hown := H2_1
  rw [List.nil_append, Nat.zero_add] at hown
  obtain ⟨a2, c2, rfl, _, hob⟩ := own_reads hown
  refine s_lit (xs := [.const (.int .u8 128)]) Tryd.underlying47 ty5 rfl rfl rfl rfl rfl (by simp [Value.cells]) (by decide) (by decide) ?_
  intro b3 w3 e2_2 z2_2 hb3 X2_2
  have s2_2_hB := hB.size
  have s2_2_hb2 := hb2.lt
  replace hB := Below.chg hB hB.size X2_2 (by simp)
  replace hG := hG.keep X2_2 (by simp)
  replace hb2 := hb2.keep X2_2 (by simp)
  replace hown := own_keep hown X2_2 (by simp)
  refine s_append Tryd.underlying47 ty5 rfl (by decide) rfl rfl rfl hown rfl (lit_reads hb3 rfl (by decide)) (by simp [flatC, Value.cells, Value.oneCell']) (by simp only [maxLen]; omega) (by omega) (by omega) ?_
  intro v4 w4 H2_3 X2_3 F2_3
  replace hB := Below.chg hB hB.size X2_3 (fun k hm => by have := (hown).lt k (by simpa using hm); omega)
  replace hG := hG.keep X2_3 (fun k hm => by have := (hown).lt k (by simpa using hm); omega)
  replace hb2 := hb2.keep X2_3 (fun hm => by have := (hown).lt _ (by simpa using hm); omega)
  have hown := H2_3
  rw [show natsC .u8 bs ++ flatC [.int .u8 128] = natsC .u8 (bs ++ [128] ++ List.replicate 0 0) by simp [natsC, flatC, Value.cells]] at hown
  refine s_val rfl rfl (runs_assign rfl) ?_
  refine s_nil ?_
  refine hK4 _ _ ?_
  refine c_seq (fun K8 hK8 => ?_)
  refine c_block ?_
  refine c_loop (σ := Nat × Value) (fun s => [(0, s.2), (3, .int .u64 ((n * 8 : Nat) : Int)), (2, .pointer (some ⟨b2, 0, none⟩))]) (fun s w' => s.1 ≤ Sp.zeros n ∧ w'.ownsRow (b2 + 1) 5 1 s.2 (n + 1 + s.1) (natsC .u8 (bs ++ [128] ++ List.replicate s.1 0)) ∧ Blk w' b2 (List.replicate 32 (.int .u8 0)) 26 ∧ GS B w' ∧ Below w.heap.size w w') (fun s => Sp.zeros n - s.1) (0, v4) ⟨rfl, rfl, rfl, trivial⟩ ⟨Nat.zero_le _, hown, hb2, hG, hB⟩ ?_
  intro ⟨k, v5⟩ w5 ⟨hk, hown, hb2, hG, hB⟩
  dsimp only at hk hown ⊢
  obtain ⟨a5, c5, rfl, hR5, hob5⟩ := own_reads hown
  refine c_seq (fun K9 hK9 => ?_)
  refine c_seqreg (fun K10 hK10 => ?_)
  refine s_val rfl rfl (runs_move rfl) ?_
  refine s_val rfl rfl (runs_len_slice Tryd.underlying47 rfl) ?_
  refine s_val rfl rfl (runs_rem64 rfl rfl (by omega) (by omega)) ?_
  refine s_val rfl rfl (runs_ned rfl rfl) ?_
  refine s_nil ?_
  refine hK10 _ _ ?_
  refine c_dec rfl (fun hz => ?_) (fun hz => ?_)
  · have hk' : k + 1 ≤ Sp.zeros n := by unfold Sp.zeros at hk ⊢; omega
    have hzb : Sp.zeros n ≤ 63 := by unfold Sp.zeros; omega
    refine c_skip ?_
    refine hK9 _ _ ?_
    refine c_block ?_
    refine c_reg ?_
    refine s_val rfl rfl (runs_move rfl) ?_
    refine s_lit (xs := [.const (.int .u8 0)]) Tryd.underlying47 ty5 rfl rfl rfl rfl rfl (by simp [Value.cells]) (by decide) (by decide) ?_
    intro b6 w6 e4_1 z4_1 hb6 X4_1
    have s4_1_hB := hB.size
    have s4_1_hb2 := hb2.lt
    replace hB := Below.chg hB hB.size X4_1 (by simp)
    replace hG := hG.keep X4_1 (by simp)
    replace hb2 := hb2.keep X4_1 (by simp)
    replace hown := own_keep hown X4_1 (by simp)
    refine s_append Tryd.underlying47 ty5 rfl (by decide) rfl rfl rfl hown rfl (lit_reads hb6 rfl (by decide)) (by simp [flatC, Value.cells, Value.oneCell']) (by simp only [maxLen]; omega) (by omega) (by omega) ?_
    intro v6 w7 H4_2 X4_2 F4_2
    replace hB := Below.chg hB hB.size X4_2 (fun k hm => by have := (hown).lt k (by simpa using hm); omega)
    replace hG := hG.keep X4_2 (fun k hm => by have := (hown).lt k (by simpa using hm); omega)
    replace hb2 := hb2.keep X4_2 (fun hm => by have := (hown).lt _ (by simpa using hm); omega)
    have hown := H4_2
    rw [show natsC .u8 (bs ++ [128] ++ List.replicate k 0) ++ flatC [.int .u8 0] = natsC .u8 (bs ++ [128] ++ List.replicate (k + 1) 0) by rw [List.replicate_succ']; simp [natsC, flatC, Value.cells]] at hown
    refine s_val rfl rfl (runs_assign rfl) ?_
    refine s_nil ?_
    dsimp only [Post.setN]
    refine ⟨(k + 1, v6), ⟨rfl, rfl, rfl, trivial⟩, ⟨hk', hown, hb2, hG, hB⟩, by dsimp only; omega⟩
  · have hzb : Sp.zeros n ≤ 63 := by unfold Sp.zeros; omega
    obtain rfl : k = Sp.zeros n := by unfold Sp.zeros at hk ⊢; omega
    refine c_exit ?_
    refine hK8 _ _ ?_
    refine c_seq (fun K13 hK13 => ?_)
    refine c_seqreg (fun K14 hK14 => ?_)
    refine s_val rfl rfl (runs_assign rfl) ?_
    refine s_nil ?_
    refine hK14 _ _ ?_
    refine c_block ?_
    refine c_loop (σ := Nat × Value) (fun s => [(4, .int .i64 (7 - (s.1 : Int))), (0, s.2), (3, .int .u64 ((n * 8 : Nat) : Int)), (2, .pointer (some ⟨b2, 0, none⟩))]) (fun s w' => s.1 ≤ 8 ∧ w'.ownsRow (b2 + 1) 5 1 s.2 (n + 1 + Sp.zeros n + s.1) (natsC .u8 (bs ++ [128] ++ List.replicate (Sp.zeros n) 0 ++ tail8 n s.1)) ∧ Blk w' b2 (List.replicate 32 (.int .u8 0)) 26 ∧ GS B w' ∧ Below w.heap.size w w') (fun s => 8 - s.1) (0, .slice a5 (n + 1 + Sp.zeros n) c5) ⟨rfl, rfl, rfl, rfl, trivial⟩ ⟨Nat.zero_le _, by simpa [tail8] using hown, hb2, hG, hB⟩ ?_
    intro ⟨i, v7⟩ w8 ⟨hi, hown, hb2, hG, hB⟩
    dsimp only at hi hown ⊢
    obtain ⟨a7, c7, rfl, hR7, hob7⟩ := own_reads hown
    refine c_seq (fun K15 hK15 => ?_)
    refine c_seqreg (fun K16 hK16 => ?_)
    refine s_val rfl rfl (runs_move rfl) ?_
    refine s_val rfl rfl (runs_ge rfl rfl) ?_
    refine s_nil ?_
    refine hK16 _ _ ?_
    refine c_dec rfl (fun hi7 => ?_) (fun hi7 => ?_)
    · refine c_skip ?_
      refine hK15 _ _ ?_
      refine c_seq (fun K17 hK17 => ?_)
      refine c_block ?_
      refine c_reg ?_
      refine s_val rfl rfl (runs_move rfl) ?_
      refine s_val rfl rfl (runs_move rfl) ?_
      refine s_val rfl rfl (runs_move rfl) ?_
      refine s_val rfl rfl (runs_mul64 rfl rfl (by omega)) ?_
      refine s_val rfl rfl (runs_shr64 rfl rfl (by omega)) ?_
      refine s_val rfl rfl (runs_conv8 Tryd.underlying22 Tryd.underlying5 rfl) ?_
      refine s_lit (xs := [.tmp 33]) Tryd.underlying47 ty5 rfl rfl rfl rfl rfl (by simp [Value.cells]) (by decide) (by decide) ?_
      intro b8 w9 e8_6 z8_6 hb8 X8_6
      have s8_6_hB := hB.size
      have s8_6_hb2 := hb2.lt
      replace hB := Below.chg hB hB.size X8_6 (by simp)
      replace hG := hG.keep X8_6 (by simp)
      replace hb2 := hb2.keep X8_6 (by simp)
      replace hown := own_keep hown X8_6 (by simp)
      refine s_append Tryd.underlying47 ty5 rfl (by decide) rfl rfl rfl hown rfl (lit_reads hb8 rfl (by decide)) (by simp [flatC, Value.cells, Value.oneCell']) (by simp only [maxLen]; omega) (by omega) (by omega) ?_
      intro v8 w10 H8_7 X8_7 F8_7
      replace hB := Below.chg hB hB.size X8_7 (fun k hm => by have := (hown).lt k (by simpa using hm); omega)
      replace hG := hG.keep X8_7 (fun k hm => by have := (hown).lt k (by simpa using hm); omega)
      replace hb2 := hb2.keep X8_7 (fun hm => by have := (hown).lt _ (by simpa using hm); omega)
      have hown := H8_7
      rw [show natsC .u8 (bs ++ [128] ++ List.replicate (Sp.zeros n) 0 ++ tail8 n i) ++ flatC [.int .u8 ((n * 8 / 2 ^ (8 * (7 - (i : Int))).toNat % 256 : Nat) : Int)] = natsC .u8 (bs ++ [128] ++ List.replicate (Sp.zeros n) 0 ++ tail8 n (i + 1)) by rw [tail8_succ n i (by omega), show (8 * (7 - (i : Int))).toNat = 8 * (7 - i) by omega]; simp [natsC, flatC, Value.cells]] at hown
      refine s_val rfl rfl (runs_assign rfl) ?_
      refine s_nil ?_
      refine hK17 _ _ ?_
      refine c_reg ?_
      refine s_val rfl rfl (runs_move rfl) ?_
      refine s_val rfl rfl (runs_sub64 rfl rfl (by omega)) ?_
      refine s_val rfl rfl (runs_assign rfl) ?_
      refine s_nil ?_
      dsimp only [Post.setN]
      refine ⟨(i + 1, v8), ⟨i64_eq (by dsimp only; omega), rfl, rfl, rfl, trivial⟩, ⟨by dsimp only; omega, hown, hb2, hG, hB⟩, by dsimp only; omega⟩
    · obtain rfl : i = 8 := by omega
      rw [show bs ++ [128] ++ List.replicate (Sp.zeros n) 0 ++ tail8 n 8 = Sp.pad bs by rw [← hbs]; exact pad_eq bs (by omega)] at hown hR7
      obtain ⟨q, hq⟩ := pad_length bs
      obtain ⟨p, hp⟩ : ∃ p, p = Sp.pad bs := ⟨_, rfl⟩
      rw [← hp] at hown hR7 hq
      have hpl : ∀ x ∈ p, x < 256 := by rw [hp]; exact pad_lt bs hbl
      have hg7 : ∀ p, a7 = some p → b2 < p.block ∧ p.block < w8.heap.size := fun p hp => by
        have := hown.lt p.block (by rw [hob7, hp]; rfl)
        omega
      obtain ⟨m, hm⟩ : ∃ m, m = n + 1 + Sp.zeros n + 8 := ⟨_, rfl⟩
      rw [← hm] at hR7 ⊢
      have hpm : p.length = m := Bytes.length hR7
      have hmc := hR7.le
      refine c_exit ?_
      refine hK13 _ _ ?_
      refine c_seqreg (fun K20 hK20 => ?_)
      refine s_val rfl rfl (runs_loadAgg ty73 rfl (hG.start) rfl) ?_
      refine s_alloc ty73 rfl rfl ?_
      intro b5 w11 e9_1 z9_1 hb5 X9_1
      have s9_1_hB := hB.size
      have s9_1_hb2 := hb2.lt
      replace hB := Below.chg hB hB.size X9_1 (by simp)
      replace hG := hG.keep X9_1 (by simp)
      replace hb2 := hb2.keep X9_1 (by simp)
      replace hR7 := hR7.keep X9_1 (by simp)
      refine s_storeAll ty73 rfl rfl rfl hb5 rfl rfl (natsC_one _ _) ?_
      intro w12 z9_2 h9_2 X9_2
      replace hB := Below.chg hB hB.size X9_2 (by simp; omega)
      replace hG := hG.keep X9_2 (by simp; omega)
      replace hb2 := hb2.keep X9_2 (by simp; omega)
      replace hR7 := hR7.keep X9_2 (fun p hp => by have := hg7 p hp; simp; omega)
      replace hb5 := h9_2
      refine s_nil ?_
      refine hK20 _ _ ?_
      refine c_seq (fun K23 hK23 => ?_)
      refine c_seqreg (fun K24 hK24 => ?_)
      refine s_val rfl rfl (runs_assign rfl) ?_
      refine s_nil ?_
      refine hK24 _ _ ?_
      refine c_block ?_
      refine c_loop (σ := Nat) (fun i => [(6, .int .i64 ((64 * i : Nat) : Int)), (0, .slice a7 m c7), (5, .pointer (some ⟨b5, 0, none⟩)), (2, .pointer (some ⟨b2, 0, none⟩))]) (fun i w' => i ≤ q ∧ Blk w' b5 (natsC .u32 (Sp.blocks Sp.h0 p i)) 73 ∧ Bytes w' a7 m c7 p ∧ Blk w' b2 (List.replicate 32 (.int .u8 0)) 26 ∧ GS B w' ∧ Below w.heap.size w w') (fun i => q - i) 0 ⟨rfl, rfl, rfl, rfl, trivial⟩ ⟨Nat.zero_le _, hb5, hR7, hb2, hG, hB⟩ ?_
      intro i w13 ⟨hi, hb5, hR7, hb2, hG, hB⟩
      refine c_seq (fun K25 hK25 => ?_)
      refine c_seqreg (fun K26 hK26 => ?_)
      refine s_val rfl rfl (runs_move rfl) ?_
      refine s_val rfl rfl (runs_move rfl) ?_
      refine s_val rfl rfl (runs_len_slice Tryd.underlying47 rfl) ?_
      refine s_val rfl rfl (runs_lt rfl rfl) ?_
      refine s_nil ?_
      refine hK26 _ _ ?_
      refine c_dec rfl (fun hiq => ?_) (fun hiq => ?_)
      · refine c_skip ?_
        refine hK25 _ _ ?_
        refine c_seq (fun K27 hK27 => ?_)
        refine c_block ?_
        refine c_reg ?_
        refine s_val rfl rfl (runs_move rfl) ?_
        refine s_val rfl rfl (runs_move rfl) ?_
        refine s_val rfl rfl (runs_move rfl) ?_
        refine s_val rfl rfl (runs_add64 rfl rfl (by omega)) ?_
        refine s_val rfl rfl (runs_slice (64 * i) (64 * i + 64) (64) Tryd.underlying47 ty5 rfl rfl rfl (by omega) (by omega) (by omega) (by omega) (by omega)) ?_
        refine s_callf (xs := [.tmp 5, .tmp 47]) rfl rfl Tryd.func30 rfl (by kernel_rfl) rfl (block_calls (Sp.blocks Sp.h0 p i) ((p.drop (64 * i)).take 64) b5 _ _ _ hb5 (blocks_ok p i).1 (blocks_ok p i).2 (by have := hR7.cut (64 * i) (64 * i + 64) (by omega) (by omega); rw [show 64 * i + 64 - 64 * i = 64 by omega, Nat.mul_one, Nat.mul_one, ← natsC_drop, ← natsC_take] at this; exact this) (fun x hx => hpl x (List.mem_of_mem_drop (List.mem_of_mem_take hx))) hG.rounds) ?_
        rintro v14 w14 ⟨rfl, hb5', X13_5⟩
        replace hB := Below.chg hB hB.size X13_5 (by simp; omega)
        replace hG := hG.keep X13_5 (by simp; omega)
        replace hb2 := hb2.keep X13_5 (by simp; omega)
        replace hR7 := hR7.keep X13_5 (fun p hp => by have := hg7 p hp; simp; omega)
        have zs13_5 := X13_5.size
        have hb5 := hb5'
        refine s_nil ?_
        refine hK27 _ _ ?_
        refine c_reg ?_
        refine s_val rfl rfl (runs_move rfl) ?_
        refine s_val rfl rfl (runs_add64 rfl rfl (by omega)) ?_
        refine s_val rfl rfl (runs_assign rfl) ?_
        refine s_nil ?_
        dsimp only [Post.setN]
        refine ⟨i + 1, ⟨i64_eq (by omega), rfl, rfl, rfl, trivial⟩, ⟨by omega, hb5, hR7, hb2, hG, hB⟩, by omega⟩
      · obtain rfl : i = q := by omega
        obtain ⟨st, hst⟩ : ∃ st, st = Sp.blocks Sp.h0 p i := ⟨_, rfl⟩
        rw [← hst] at hb5
        have hstl : st.length = 8 := by rw [hst]; exact (blocks_ok p i).1
        have hb5lt := hb5.lt
        refine c_exit ?_
        refine hK23 _ _ ?_
        refine c_seqreg (fun K29 hK29 => ?_)
        refine s_alloc ty26 rfl rfl ?_
        intro b7 w15 e14_0 z14_0 hb7 X14_0
        have s14_0_hB := hB.size
        have s14_0_hb2 := hb2.lt
        have s14_0_hb5 := hb5.lt
        replace hB := Below.chg hB hB.size X14_0 (by simp)
        replace hb2 := hb2.keep X14_0 (by simp)
        replace hb5 := hb5.keep X14_0 (by simp)
        refine s_nil ?_
        refine hK29 _ _ ?_
        refine c_seq (fun K31 hK31 => ?_)
        refine c_seqreg (fun K32 hK32 => ?_)
        refine s_val rfl rfl (runs_move rfl) ?_
        refine s_nil ?_
        refine hK32 _ _ ?_
        refine c_block ?_
        refine c_loop (σ := Nat) (fun j => [(49, .int .i64 (j : Int)), (7, .pointer (some ⟨b7, 0, none⟩)), (5, .pointer (some ⟨b5, 0, none⟩)), (2, .pointer (some ⟨b2, 0, none⟩))]) (fun j w' => j ≤ 32 ∧ Blk w' b7 (natsC .u8 ((Sp.out st).take j ++ List.replicate (32 - j) 0)) 26 ∧ Blk w' b5 (natsC .u32 st) 73 ∧ Blk w' b2 (List.replicate 32 (.int .u8 0)) 26 ∧ Below w.heap.size w w') (fun j => 32 - j) 0 ⟨rfl, rfl, rfl, rfl, trivial⟩ ⟨Nat.zero_le _, by rw [List.take_zero, List.nil_append, natsC_replicate]; exact hb7, hb5, hb2, hB⟩ ?_
        intro j w16 ⟨hj, hb7, hb5, hb2, hB⟩
        refine c_seqreg (fun K33 hK33 => ?_)
        refine s_val rfl rfl (runs_lt rfl rfl) ?_
        refine s_nil ?_
        refine hK33 _ _ ?_
        refine c_seq (fun K34 hK34 => ?_)
        refine c_dec rfl (fun hj32 => ?_) (fun hj32 => ?_)
        · obtain ⟨x, hx⟩ : ∃ x, st[j / 4]? = some x := ⟨_, List.getElem?_eq_getElem (by omega)⟩
          refine c_skip ?_
          refine hK34 _ _ ?_
          refine c_seq (fun K35 hK35 => ?_)
          refine c_block ?_
          refine c_seqreg (fun K36 hK36 => ?_)
          refine s_val rfl rfl (runs_move rfl) ?_
          refine s_val rfl rfl (runs_assign rfl) ?_
          refine s_nil ?_
          refine hK36 _ _ ?_
          refine c_reg ?_
          refine s_val rfl rfl (runs_move rfl) ?_
          refine s_val rfl rfl (runs_move rfl) ?_
          refine s_val rfl rfl (runs_quo64 rfl rfl (by omega) (by omega) (by omega)) ?_
          refine s_val rfl rfl (runs_index_array (j / 4) Tryd.underlying73 ty72 rfl rfl (by omega) (by omega)) ?_
          refine s_val rfl rfl (runs_load1 ty72 rfl (hb5.c1 (natsC_get hx))) ?_
          refine s_val rfl rfl (runs_move rfl) ?_
          refine s_val rfl rfl (runs_rem64 rfl rfl (by omega) (by omega)) ?_
          refine s_val rfl rfl (runs_mul64 rfl rfl (by omega)) ?_
          refine s_val rfl rfl (runs_sub64 rfl rfl (by omega)) ?_
          refine s_val rfl rfl (runs_shr32 rfl rfl (by omega)) ?_
          refine s_val rfl rfl (runs_conv8 Tryd.underlying72 Tryd.underlying5 rfl) ?_
          refine s_val rfl rfl (runs_index_array (j) Tryd.underlying26 ty5 rfl rfl (by omega) (by omega)) ?_
          refine s_store1 ty5 rfl rfl rfl hb7 (by rfl) (by rw [natsC_length]; simp [out_length]; omega) ?_
          intro w17 z18_12 h18_12 X18_12
          replace hB := Below.chg hB hB.size X18_12 (by simp; omega)
          replace hb5 := hb5.keep X18_12 (by simp; omega)
          replace hb2 := hb2.keep X18_12 (by simp; omega)
          replace hb7 := h18_12
          rw [show 0 + j * 1 = j by omega, natsC_set] at hb7
          replace hb7 : Blk w17 b7 (natsC .u8 ((Sp.out st).take (j + 1) ++ List.replicate (32 - (j + 1)) 0)) 26 := by
            have e1 := set_mid ((Sp.out st).take j) 0 (x / 2 ^ (24 - 8 * ((j : Int) % 4)).toNat % 256) (List.replicate (32 - (j + 1)) 0)
            rw [show ((Sp.out st).take j).length = j by simp [out_length]; omega, show (0 :: List.replicate (32 - (j + 1)) 0) = List.replicate (32 - j) 0 by rw [show 32 - j = (32 - (j + 1)) + 1 by omega]; rfl] at e1
            have e2 : (Sp.out st)[j]? = some (x / 2 ^ (24 - 8 * ((j : Int) % 4)).toNat % 256) := by
              rw [show (24 - 8 * ((j : Int) % 4)).toNat = 24 - 8 * (j % 4) by omega]
              simp [Sp.out, show j < 32 from by omega, List.getD_eq_getElem?_getD, hx]
            rw [List.take_add_one, e2, Option.toList_some, List.append_assoc, List.singleton_append, ← e1]
            exact hb7
          refine s_nil ?_
          refine hK35 _ _ ?_
          refine c_reg ?_
          refine s_val rfl rfl (runs_add64 rfl rfl (by omega)) ?_
          refine s_val rfl rfl (runs_move rfl) ?_
          refine s_nil ?_
          dsimp only [Post.setN]
          refine ⟨j + 1, ⟨rfl, rfl, rfl, rfl, trivial⟩, ⟨by omega, hb7, hb5, hb2, hB⟩, by omega⟩
        · obtain rfl : j = 32 := by omega
          rw [show 32 - 32 = 0 from rfl, List.replicate_zero, List.append_nil, List.take_of_length_le (by rw [out_length]; omega)] at hb7
          have hne : b7 ≠ b2 := by omega
          refine c_exit ?_
          refine hK31 _ _ ?_
          refine c_seqreg (fun K38 hK38 => ?_)
          refine s_val rfl rfl (runs_loadAgg ty26 rfl (hb7.at) (by rw [natsC_length, out_length])) ?_
          refine s_storeAll ty26 rfl rfl rfl hb2 (by rw [natsC_length, out_length]) rfl (natsC_one _ _) ?_
          intro w18 z20_1 h20_1 X20_1
          replace hB := Below.chg hB hB.size X20_1 (by simp; omega)
          replace hb7 := hb7.keep X20_1 (by simp; omega)
          replace hb5 := hb5.keep X20_1 (by simp; omega)
          replace hb2 := h20_1
          refine s_nil ?_
          refine hK38 _ _ ?_
          refine c_ret ?_
          refine hret _ _ ?_
          refine ends1 (reads_cell ty26 rfl hb2.at (by rw [natsC_length, out_length])) ⟨?_, Chg.of_below hB⟩
          rw [hst, hp, show Sp.sha bs = Sp.out (Sp.blocks Sp.h0 (Sp.pad bs) i) by rw [Sp.sha, ← hp, hq, Nat.mul_div_cancel_left _ (by decide)]]
end Go.Proofs.YtmmijecookbajaaDoor
