/- The functions turn and block of the package sha answer as the specification says. Conditions: none beyond those in the theorems. By an AI agent. -/
import Derived.Test.YtmmijecookbajaaDoorC3
import Derived.Test.YtmmijecookbajaaDoorTy
import Derived.Test.YtmmijecookbajaaDoorSp
namespace Go.Proofs.YtmmijecookbajaaDoor
open Go Go.RowKit

theorem lt_turn {x : Nat} (k : Nat) (hx : x < 4294967296) : Sp.turn x k < 4294967296 := lt_or (lt_div _ hx) (lt_mod _)

theorem turn_calls (x : Nat) (k : Int) (w : World) (hx : x < 4294967296) (h0 : 0 ≤ k) (h1 : k ≤ 32) :
    CallsR Tryd.prog 35 #[.int .u32 x, .int .i64 k] w fun v w' => v = .int .u32 (Sp.turn x k.toNat : Nat) ∧ Chg w w' [] := by
  have hB : Below w.heap.size w w := Below.refl _ _
  refine f_enter (l := [.int .u32 x, .int .i64 k]) Tryd.func35 rfl rfl rfl rfl ?_
  intro Qf hnrm hret
  refine c_seqreg (fun K1 hK1 => ?_)
  refine s_val rfl rfl (runs_assign rfl) ?_
  refine s_nil ?_
  refine hK1 _ _ ?_
  refine c_seqdraw [] ([]) (by kernel_rfl) ?_
  intro K2 hK2 wd1 Xd1 hS1
  replace hB := Below.chg hB hB.size Xd1 (by simp)
  have zd1 := Xd1.size
  refine d_take 0 5 rfl (by kernel_rfl) rfl hS1 (fun wS hS => runs_move rfl) ?_
  refine d_take 1 6 rfl (by kernel_rfl) rfl hS1 (fun wS hS => runs_move rfl) ?_
  refine d_take 2 7 rfl (by kernel_rfl) rfl hS1 (fun wS hS => runs_shr32 rfl rfl (by omega)) ?_
  refine d_take 3 8 rfl (by kernel_rfl) rfl hS1 (fun wS hS => runs_move rfl) ?_
  refine d_take 4 9 rfl (by kernel_rfl) rfl hS1 (fun wS hS => runs_move rfl) ?_
  refine d_take 5 10 rfl (by kernel_rfl) rfl hS1 (fun wS hS => runs_sub64 rfl rfl (by omega)) ?_
  refine d_take 6 11 rfl (by kernel_rfl) rfl hS1 (fun wS hS => runs_shl32 rfl rfl (by omega)) ?_
  refine d_take 7 12 rfl (by kernel_rfl) rfl hS1 (fun wS hS => runs_or32 rfl rfl (by repeat (first | assumption | exact lt_mod _ | apply lt_xor | apply lt_or | apply lt_and | apply lt_div | apply lt_turn | decide)) (by repeat (first | assumption | exact lt_mod _ | apply lt_xor | apply lt_or | apply lt_and | apply lt_div | apply lt_turn | decide))) ?_
  refine d_take 8 4 rfl (by kernel_rfl) rfl hS1 (fun wS hS => runs_assign rfl) ?_
  refine d_done (by kernel_rfl) ?_
  replace hB := Below.chg hB hB.size hS1 (by simp)
  refine hK2 _ _ ?_
  refine c_ret ?_
  refine hret _ _ ?_
  exact ends1 (reads_tmp rfl) ⟨by rw [show (32 - k).toNat = 32 - k.toNat by omega]; rfl, Chg.of_below hB⟩

/-! block -/
theorem word_lt (cs : List Nat) (hcs : ∀ c ∈ cs, c < 256) : ∀ a, a < 4294967296 → cs.foldl Sp.put8 a < 4294967296 := by
  induction cs with
  | nil => intro a ha; exact ha
  | cons c cs ih =>
    intro a _
    exact ih (fun c hc => hcs c (by simp [hc])) _ (lt_or (lt_mod _) (by have := hcs c (by simp); omega))
theorem first_length (b : List Nat) (i : Nat) : (Sp.first b i).length = i := by simp [Sp.first]
theorem first_succ (b : List Nat) (i : Nat) : Sp.first b (i + 1) = Sp.first b i ++ [Sp.word ((b.drop (4 * i)).take 4)] := by simp [Sp.first, List.range_succ]
theorem first_lt (b : List Nat) (hb : ∀ c ∈ b, c < 256) (i : Nat) : ∀ x ∈ Sp.first b i, x < 4294967296 := by
  intro x hx
  simp only [Sp.first, List.mem_map] at hx
  obtain ⟨j, _, rfl⟩ := hx
  exact word_lt _ (fun c hc => hb c (List.mem_of_mem_drop (List.mem_of_mem_take hc))) 0 (by decide)
theorem set_mid (A : List Nat) (x y : Nat) (Z : List Nat) : (A ++ x :: Z).set A.length y = A ++ y :: Z := by simp
theorem get_mid (A : List Nat) (x : Nat) (Z : List Nat) : (A ++ x :: Z)[A.length]? = some x := by simp

theorem more_length (ws : List Nat) (n : Nat) : (Sp.more ws n).length = ws.length + n := by
  induction n with
  | zero => rfl
  | succ n ih => simp [Sp.more, ih]; omega
theorem next_lt (ws : List Nat) : Sp.next ws < 4294967296 := lt_mod _
theorem more_lt (ws : List Nat) (h : ∀ x ∈ ws, x < 4294967296) (n : Nat) : ∀ x ∈ Sp.more ws n, x < 4294967296 := by
  induction n with
  | zero => exact h
  | succ n ih =>
    intro x hx
    simp only [Sp.more, List.mem_append, List.mem_singleton] at hx
    rcases hx with hx | rfl
    · exact ih x hx
    · exact next_lt _
theorem getD_lt {ws : List Nat} (h : ∀ x ∈ ws, x < 4294967296) (i : Nat) : ws.getD i 0 < 4294967296 := by
  rw [List.getD_eq_getElem?_getD]
  cases hi : ws[i]? with
  | none => decide
  | some v => exact h v (List.mem_of_getElem? hi)
theorem get_pad (A Z : List Nat) (i : Nat) (h : i < A.length) : (A ++ Z)[i]? = some (A.getD i 0) := by
  rw [List.getElem?_append_left h, List.getD_eq_getElem?_getD, List.getElem?_eq_getElem h]; rfl
theorem rounds_eight (hs ws : List Nat) (hlen : hs.length = 8) (hlt : ∀ x ∈ hs, x < 4294967296) (k : Nat) :
    ∃ a b c d e f g h, Sp.rounds hs ws k = [a, b, c, d, e, f, g, h] ∧ a < 4294967296 ∧ b < 4294967296 ∧ c < 4294967296 ∧ d < 4294967296 ∧ e < 4294967296 ∧ f < 4294967296 ∧ g < 4294967296 ∧ h < 4294967296 := by
  induction k with
  | zero =>
    match hs, hlen, hlt with
    | [a, b, c, d, e, f, g, h], _, hlt =>
      exact ⟨a, b, c, d, e, f, g, h, rfl, hlt _ (by simp), hlt _ (by simp), hlt _ (by simp), hlt _ (by simp), hlt _ (by simp), hlt _ (by simp), hlt _ (by simp), hlt _ (by simp)⟩
  | succ k ih =>
    obtain ⟨a, b, c, d, e, f, g, h, hR, h1, h2, h3, h4, h5, h6, h7, h8⟩ := ih
    simp only [Sp.rounds, hR, Sp.round]
    exact ⟨_, _, _, _, _, _, _, _, rfl, lt_mod _, h1, h2, h3, lt_mod _, h5, h6, h7⟩

set_option maxHeartbeats 1000000 in
set_option maxRecDepth 4000 in
theorem block_calls (hs bs : List Nat) (bh : Nat) (a : Option Addr) (c : Nat) (w : World) (hh : Blk w bh (natsC .u32 hs) 73) (hlen : hs.length = 8) (hlt : ∀ x ∈ hs, x < 4294967296)
    (hb : SlR w 1 a 64 c (natsC .u8 bs)) (hbl : ∀ x ∈ bs, x < 256) (hK : At w 4 0 (natsC .u32 Sp.ks)) :
    CallsR Tryd.prog 30 #[.pointer (some ⟨bh, 0, none⟩), .slice a 64 c] w fun v w' => v = .tuple #[] ∧ Blk w' bh (natsC .u32 (Sp.block hs bs)) 73 ∧ Chg w w' [bh] := by
  have hbs : bs.length = 64 := by have := hb.len; simpa [natsC] using this
  have hbc := hb.le
  obtain ⟨ba, oa, rfl⟩ := hb.some_ (by decide)
  have hg3 : 4 < w.heap.size := World.block_lt_of_cell? w _ (hK 0 _ rfl)
  have hB : Below w.heap.size w w := Below.refl _ _
  refine f_enter (l := [.pointer (some ⟨bh, 0, none⟩), .slice (some ⟨ba, oa, none⟩) 64 c]) Tryd.func30 rfl rfl rfl rfl ?_
  intro Qf hnrm hret
  refine c_seqreg (fun K1 hK1 => ?_)
  refine s_alloc ty83 rfl rfl ?_
  intro b4 w1 e0_0 z0_0 hb4 X0_0
  have s0_0_hB := hB.size
  replace hB := Below.chg hB hB.size X0_0 (by simp)
  replace hb4 : Blk w1 b4 (natsC .u32 (List.replicate 64 0)) 83 := by rw [natsC_replicate]; exact hb4
  have e4 := e0_0
  refine s_nil ?_
  refine hK1 _ _ ?_
  refine c_seq (fun K3 hK3 => ?_)
  refine c_seqreg (fun K4 hK4 => ?_)
  refine s_val rfl rfl (runs_move rfl) ?_
  refine s_nil ?_
  refine hK4 _ _ ?_
  refine c_block ?_
  refine c_loop (σ := Nat) (fun i => [(18, .int .i64 (i : Int)), (0, .pointer (some ⟨bh, 0, none⟩)), (1, .slice (some ⟨ba, oa, none⟩) 64 c), (4, .pointer (some ⟨b4, 0, none⟩))]) (fun i w' => i ≤ 16 ∧ Blk w' b4 (natsC .u32 (Sp.first bs i ++ List.replicate (64 - i) 0)) 83 ∧ Below w.heap.size w w') (fun i => 16 - i) 0 ⟨rfl, rfl, rfl, rfl, trivial⟩ ⟨by omega, by simpa [Sp.first] using hb4, hB⟩ ?_
  intro i w2 ⟨hi, hb4, hB⟩
  refine c_seqreg (fun K5 hK5 => ?_)
  refine s_val rfl rfl (runs_lt rfl rfl) ?_
  refine s_nil ?_
  refine hK5 _ _ ?_
  refine c_seq (fun K6 hK6 => ?_)
  refine c_dec rfl (fun hi16 => ?_) (fun hi16 => ?_)
  · refine c_skip ?_
    refine hK6 _ _ ?_
    refine c_seq (fun K7 hK7 => ?_)
    refine c_block ?_
    refine c_seqreg (fun K8 hK8 => ?_)
    refine s_val rfl rfl (runs_move rfl) ?_
    refine s_val rfl rfl (runs_assign rfl) ?_
    refine s_nil ?_
    refine hK8 _ _ ?_
    refine c_seqreg (fun K9 hK9 => ?_)
    refine s_val rfl rfl (runs_move rfl) ?_
    refine s_val rfl rfl (runs_move rfl) ?_
    refine s_val rfl rfl (runs_mul64 rfl rfl (by omega)) ?_
    refine s_val rfl rfl (runs_move rfl) ?_
    refine s_val rfl rfl (runs_mul64 rfl rfl (by omega)) ?_
    refine s_val rfl rfl (runs_add64 rfl rfl (by omega)) ?_
    refine s_val rfl rfl (runs_slice_in (4 * i) (4 * i + 4) (4) Tryd.underlying47 ty5 rfl rfl rfl (by omega) (by omega) (by omega) (by omega) (by omega) (by omega)) ?_
    refine s_val rfl rfl (runs_len_slice Tryd.underlying47 rfl) ?_
    refine s_val rfl rfl (runs_move rfl) ?_
    refine s_nil ?_
    refine hK9 _ _ ?_
    refine c_block ?_
    refine c_loop (σ := Nat) (fun j => [(29, .int .i64 (j : Int)), (18, .int .i64 (i : Int)), (0, .pointer (some ⟨bh, 0, none⟩)), (1, .slice (some ⟨ba, oa, none⟩) 64 c), (4, .pointer (some ⟨b4, 0, none⟩)), (5, .int .i64 (i : Int)), (27, .slice (some ⟨ba, oa + 4 * i * 1, none⟩) 4 (c - 4 * i)), (28, .int .i64 (4 : Nat))]) (fun j w' => j ≤ 4 ∧ Blk w' b4 (natsC .u32 (Sp.first bs i ++ Sp.word ((bs.drop (4 * i)).take j) :: List.replicate (63 - i) 0)) 83 ∧ Below w.heap.size w w') (fun j => 4 - j) 0 ⟨rfl, rfl, rfl, rfl, rfl, rfl, rfl, rfl, trivial⟩ ⟨by omega, by rw [show 64 - i = (63 - i) + 1 by omega] at hb4; exact hb4, hB⟩ ?_
    intro j w3 ⟨hj, hb4, hB⟩
    refine c_seqreg (fun K10 hK10 => ?_)
    refine s_val rfl rfl (runs_lt rfl rfl) ?_
    refine s_nil ?_
    refine hK10 _ _ ?_
    refine c_seq (fun K11 hK11 => ?_)
    refine c_dec rfl (fun hj4 => ?_) (fun hj4 => ?_)
    · obtain ⟨x, hx⟩ : ∃ x, bs[4 * i + j]? = some x := ⟨_, List.getElem?_eq_getElem (by omega)⟩
      have hxl : x < 256 := hbl x (List.mem_of_getElem? hx)
      refine c_skip ?_
      refine hK11 _ _ ?_
      refine c_seq (fun K12 hK12 => ?_)
      refine c_block ?_
      refine c_seqreg (fun K13 hK13 => ?_)
      refine s_val rfl rfl (runs_index_slice (j) Tryd.underlying47 ty5 rfl rfl (by omega) (by omega)) ?_
      refine s_val rfl rfl (runs_load1 ty5 rfl (by have := ((hb.grow (Chg.of_below hB)).cells _ rfl).2 (4 * i + j) _ (natsC_get hx); rwa [show oa + (4 * i + j) = oa + 4 * i * 1 + j * 1 by omega] at this)) ?_
      refine s_val rfl rfl (runs_assign rfl) ?_
      refine s_nil ?_
      refine hK13 _ _ ?_
      refine c_reg ?_
      refine s_val rfl rfl (runs_move rfl) ?_
      refine s_val rfl rfl (runs_move rfl) ?_
      refine s_val rfl rfl (runs_index_array (i) Tryd.underlying83 ty72 rfl rfl (by omega) (by omega)) ?_
      refine s_val rfl rfl (runs_load1 ty72 rfl (hb4.c1 (natsC_get (by have := get_mid (Sp.first bs i) (Sp.word ((bs.drop (4 * i)).take j)) (List.replicate (63 - i) 0); rwa [first_length] at this)))) ?_
      refine s_val rfl rfl (runs_shl32 rfl rfl (by omega)) ?_
      refine s_val rfl rfl (runs_move rfl) ?_
      refine s_val rfl rfl (runs_conv32 Tryd.underlying5 Tryd.underlying72 rfl (by omega)) ?_
      refine s_val rfl rfl (runs_or32 rfl rfl (lt_mod _) (by omega)) ?_
      refine s_val rfl rfl (runs_index_array (i) Tryd.underlying83 ty72 rfl rfl (by omega) (by omega)) ?_
      refine s_store1 ty72 rfl rfl rfl hb4 (by rfl) (by rw [natsC_length]; simp [first_length]) ?_
      intro w4 z7_9 h7_9 X7_9
      replace hB := Below.chg hB hB.size X7_9 (by simp; omega)
      replace hb4 := h7_9
      rw [show 0 + i * 1 = i by omega, natsC_set] at hb4
      have e1 := set_mid (Sp.first bs i) (Sp.word ((bs.drop (4 * i)).take j)) (Sp.put8 (Sp.word ((bs.drop (4 * i)).take j)) x) (List.replicate (63 - i) 0)
      rw [first_length] at e1
      replace hb4 : Blk w4 b4 (natsC .u32 (Sp.first bs i ++ Sp.word ((bs.drop (4 * i)).take (j + 1)) :: List.replicate (63 - i) 0)) 83 := by
        have e2 : (bs.drop (4 * i)).take (j + 1) = (bs.drop (4 * i)).take j ++ [x] := by
          rw [List.take_add_one, List.getElem?_drop, hx]; rfl
        rw [e2, show Sp.word ((bs.drop (4 * i)).take j ++ [x]) = Sp.put8 (Sp.word ((bs.drop (4 * i)).take j)) x by simp [Sp.word], ← e1]
        exact hb4
      clear e1
      refine s_nil ?_
      refine hK12 _ _ ?_
      refine c_reg ?_
      refine s_val rfl rfl (runs_add64 rfl rfl (by omega)) ?_
      refine s_val rfl rfl (runs_move rfl) ?_
      refine s_nil ?_
      dsimp only [Post.setN]
      exact ⟨j + 1, ⟨rfl, rfl, rfl, rfl, rfl, rfl, rfl, rfl, trivial⟩, ⟨by omega, hb4, hB⟩, by omega⟩
    · obtain rfl : j = 4 := by omega
      rw [show Sp.first bs i ++ Sp.word ((bs.drop (4 * i)).take 4) :: List.replicate (63 - i) 0 = Sp.first bs (i + 1) ++ List.replicate (64 - (i + 1)) 0 by rw [first_succ, show 64 - (i + 1) = 63 - i by omega]; simp] at hb4
      refine c_exit ?_
      refine hK7 _ _ ?_
      refine c_reg ?_
      refine s_val rfl rfl (runs_add64 rfl rfl (by omega)) ?_
      refine s_val rfl rfl (runs_move rfl) ?_
      refine s_nil ?_
      dsimp only [Post.setN]
      exact ⟨i + 1, ⟨rfl, rfl, rfl, rfl, trivial⟩, ⟨by omega, hb4, hB⟩, by omega⟩
  · obtain rfl : i = 16 := by omega
    have hW0 : ∀ x ∈ Sp.first bs 16, x < 4294967296 := first_lt bs hbl 16
    refine c_exit ?_
    refine hK3 _ _ ?_
    refine c_seq (fun K15 hK15 => ?_)
    refine c_seqreg (fun K16 hK16 => ?_)
    refine s_val rfl rfl (runs_assign rfl) ?_
    refine s_nil ?_
    refine hK16 _ _ ?_
    refine c_block ?_
    refine c_loop (σ := Nat) (fun n => [(8, .int .i64 ((16 + n : Nat) : Int)), (0, .pointer (some ⟨bh, 0, none⟩)), (4, .pointer (some ⟨b4, 0, none⟩))]) (fun n w' => n ≤ 48 ∧ Blk w' b4 (natsC .u32 (Sp.more (Sp.first bs 16) n ++ List.replicate (48 - n) 0)) 83 ∧ Below w.heap.size w w') (fun n => 48 - n) 0 ⟨rfl, rfl, rfl, trivial⟩ ⟨by omega, hb4, hB⟩ ?_
    intro n w5 ⟨hn, hb4, hB⟩
    have hWl := more_length (Sp.first bs 16) n
    rw [first_length] at hWl
    have hWb := more_lt (Sp.first bs 16) hW0 n
    refine c_seq (fun K17 hK17 => ?_)
    refine c_seqreg (fun K18 hK18 => ?_)
    refine s_val rfl rfl (runs_move rfl) ?_
    refine s_val rfl rfl (runs_lt rfl rfl) ?_
    refine s_nil ?_
    refine hK18 _ _ ?_
    refine c_dec rfl (fun hn48 => ?_) (fun hn48 => ?_)
    · obtain ⟨x, hx⟩ : ∃ x, x = (Sp.more (Sp.first bs 16) n).getD (n + 1) 0 := ⟨_, rfl⟩
      obtain ⟨y, hy⟩ : ∃ y, y = (Sp.more (Sp.first bs 16) n).getD (n + 14) 0 := ⟨_, rfl⟩
      obtain ⟨p, hp⟩ : ∃ p, p = (Sp.more (Sp.first bs 16) n).getD n 0 := ⟨_, rfl⟩
      obtain ⟨q, hq⟩ : ∃ q, q = (Sp.more (Sp.first bs 16) n).getD (n + 9) 0 := ⟨_, rfl⟩
      have hxl : x < 4294967296 := hx ▸ getD_lt hWb _
      have hyl : y < 4294967296 := hy ▸ getD_lt hWb _
      have gx := get_pad (Sp.more (Sp.first bs 16) n) (List.replicate (48 - n) 0) (n + 1) (by omega)
      have gy := get_pad (Sp.more (Sp.first bs 16) n) (List.replicate (48 - n) 0) (n + 14) (by omega)
      have gp := get_pad (Sp.more (Sp.first bs 16) n) (List.replicate (48 - n) 0) n (by omega)
      have gq := get_pad (Sp.more (Sp.first bs 16) n) (List.replicate (48 - n) 0) (n + 9) (by omega)
      rw [← hx] at gx; rw [← hy] at gy; rw [← hp] at gp; rw [← hq] at gq
      refine c_skip ?_
      refine hK17 _ _ ?_
      refine c_seq (fun K19 hK19 => ?_)
      refine c_block ?_
      refine c_seqdraw [] ([]) (by kernel_rfl) ?_
      intro K20 hK20 wd13 Xd13 hS13
      replace hB := Below.chg hB hB.size Xd13 (by simp)
      replace hb4 := hb4.keep Xd13 (by simp)
      have zd13 := Xd13.size
      refine d_take 0 48 rfl (by kernel_rfl) rfl hS13 (fun wS hS => runs_move rfl) ?_
      refine d_take 1 49 rfl (by kernel_rfl) rfl hS13 (fun wS hS => runs_sub64 rfl rfl (by omega)) ?_
      refine d_take 2 50 rfl (by kernel_rfl) rfl hS13 (fun wS hS => runs_index_array (n + 1) Tryd.underlying83 ty72 rfl rfl (by omega) (by omega)) ?_
      refine d_take 3 51 rfl (by kernel_rfl) rfl hS13 (fun wS hS => runs_load1 ty72 rfl ((hb4.keep hS (by simp)).c1 (natsC_get gx))) ?_
      refine d_take 4 52 rfl (by kernel_rfl) rfl hS13 (fun wS hS => runs_move rfl) ?_
      refine d_take 5 53 rfl (by kernel_rfl) rfl hS13 (fun wS hS => runs_sub64 rfl rfl (by omega)) ?_
      refine d_take 6 54 rfl (by kernel_rfl) rfl hS13 (fun wS hS => runs_index_array (n + 14) Tryd.underlying83 ty72 rfl rfl (by omega) (by omega)) ?_
      refine d_take 7 55 rfl (by kernel_rfl) rfl hS13 (fun wS hS => runs_load1 ty72 rfl ((hb4.keep hS (by simp)).c1 (natsC_get gy))) ?_
      refine d_take 8 9 rfl (by kernel_rfl) rfl hS13 (fun wS hS => runs_assign rfl) ?_
      refine d_take 9 10 rfl (by kernel_rfl) rfl hS13 (fun wS hS => runs_assign rfl) ?_
      refine d_done (by kernel_rfl) ?_
      replace hB := Below.chg hB hB.size hS13 (by simp)
      replace hb4 := hb4.keep hS13 (by simp)
      refine hK20 _ _ ?_
      refine c_drawX [29] ([]) (by kernel_rfl) ?_
      intro wd14 Xd14 hS14
      replace hB := Below.chg hB hB.size Xd14 (by simp)
      replace hb4 := hb4.keep Xd14 (by simp)
      have zd14 := Xd14.size
      refine d_take 0 56 rfl (by kernel_rfl) rfl hS14 (fun wS hS => runs_move rfl) ?_
      refine d_take 1 57 rfl (by kernel_rfl) rfl hS14 (fun wS hS => runs_move rfl) ?_
      refine d_take 2 58 rfl (by kernel_rfl) rfl hS14 (fun wS hS => runs_sub64 rfl rfl (by omega)) ?_
      refine d_take 3 59 rfl (by kernel_rfl) rfl hS14 (fun wS hS => runs_index_array (n) Tryd.underlying83 ty72 rfl rfl (by omega) (by omega)) ?_
      refine d_take 4 60 rfl (by kernel_rfl) rfl hS14 (fun wS hS => runs_load1 ty72 rfl ((hb4.keep hS (by simp)).c1 (natsC_get gp))) ?_
      refine d_take 5 61 rfl (by kernel_rfl) rfl hS14 (fun wS hS => runs_move rfl) ?_
      refine d_take 7 63 rfl (by kernel_rfl) rfl hS14 (fun wS hS => runs_move rfl) ?_
      refine d_take 10 66 rfl (by kernel_rfl) rfl hS14 (fun wS hS => runs_move rfl) ?_
      refine d_take 11 67 rfl (by kernel_rfl) rfl hS14 (fun wS hS => runs_shr32 rfl rfl (by decide)) ?_
      refine d_take 14 70 rfl (by kernel_rfl) rfl hS14 (fun wS hS => runs_move rfl) ?_
      refine d_take 15 71 rfl (by kernel_rfl) rfl hS14 (fun wS hS => runs_sub64 rfl rfl (by omega)) ?_
      refine d_take 16 72 rfl (by kernel_rfl) rfl hS14 (fun wS hS => runs_index_array (n + 9) Tryd.underlying83 ty72 rfl rfl (by omega) (by omega)) ?_
      refine d_take 17 73 rfl (by kernel_rfl) rfl hS14 (fun wS hS => runs_load1 ty72 rfl ((hb4.keep hS (by simp)).c1 (natsC_get gq))) ?_
      refine d_take 19 75 rfl (by kernel_rfl) rfl hS14 (fun wS hS => runs_move rfl) ?_
      refine d_take 21 77 rfl (by kernel_rfl) rfl hS14 (fun wS hS => runs_move rfl) ?_
      refine d_take 24 80 rfl (by kernel_rfl) rfl hS14 (fun wS hS => runs_move rfl) ?_
      refine d_take 25 81 rfl (by kernel_rfl) rfl hS14 (fun wS hS => runs_shr32 rfl rfl (by decide)) ?_
      refine d_only 6 rfl (by kernel_rfl) ?_
      refine s_callf (xs := [.tmp 61, .const (.int .i64 7)]) rfl rfl Tryd.func35 rfl (by kernel_rfl) rfl (turn_calls x 7 _ hxl (by decide) (by decide)) ?_
      rintro _ w14a ⟨rfl, X14_6⟩
      have zs14_6 := X14_6.size
      replace hS14 : Chg wd14 _ [] := hS14.trans X14_6
      refine s_nil ⟨.inr hS14, ?_⟩
      refine d_only 8 rfl (by kernel_rfl) ?_
      refine s_callf (xs := [.tmp 63, .const (.int .i64 18)]) rfl rfl Tryd.func35 rfl (by kernel_rfl) rfl (turn_calls x 18 _ hxl (by decide) (by decide)) ?_
      rintro _ w14b ⟨rfl, X14_8⟩
      have zs14_8 := X14_8.size
      replace hS14 : Chg wd14 _ [] := hS14.trans X14_8
      refine s_nil ⟨.inr hS14, ?_⟩
      refine d_take 9 65 rfl (by kernel_rfl) rfl hS14 (fun wS hS => runs_xor32 rfl rfl (by repeat (first | assumption | exact lt_mod _ | apply lt_xor | apply lt_or | apply lt_and | apply lt_div | apply lt_turn | decide)) (by repeat (first | assumption | exact lt_mod _ | apply lt_xor | apply lt_or | apply lt_and | apply lt_div | apply lt_turn | decide))) ?_
      refine d_take 12 68 rfl (by kernel_rfl) rfl hS14 (fun wS hS => runs_xor32 rfl rfl (by repeat (first | assumption | exact lt_mod _ | apply lt_xor | apply lt_or | apply lt_and | apply lt_div | apply lt_turn | decide)) (by repeat (first | assumption | exact lt_mod _ | apply lt_xor | apply lt_or | apply lt_and | apply lt_div | apply lt_turn | decide))) ?_
      refine d_take 13 69 rfl (by kernel_rfl) rfl hS14 (fun wS hS => runs_add32 rfl rfl) ?_
      refine d_take 18 74 rfl (by kernel_rfl) rfl hS14 (fun wS hS => runs_add32 rfl rfl) ?_
      refine d_only 20 rfl (by kernel_rfl) ?_
      refine s_callf (xs := [.tmp 75, .const (.int .i64 17)]) rfl rfl Tryd.func35 rfl (by kernel_rfl) rfl (turn_calls y 17 _ hyl (by decide) (by decide)) ?_
      rintro _ w14c ⟨rfl, X14_20⟩
      have zs14_20 := X14_20.size
      replace hS14 : Chg wd14 _ [] := hS14.trans X14_20
      refine s_nil ⟨.inr hS14, ?_⟩
      refine d_only 22 rfl (by kernel_rfl) ?_
      refine s_callf (xs := [.tmp 77, .const (.int .i64 19)]) rfl rfl Tryd.func35 rfl (by kernel_rfl) rfl (turn_calls y 19 _ hyl (by decide) (by decide)) ?_
      rintro _ w14d ⟨rfl, X14_22⟩
      have zs14_22 := X14_22.size
      replace hS14 : Chg wd14 _ [] := hS14.trans X14_22
      refine s_nil ⟨.inr hS14, ?_⟩
      refine d_take 23 79 rfl (by kernel_rfl) rfl hS14 (fun wS hS => runs_xor32 rfl rfl (by repeat (first | assumption | exact lt_mod _ | apply lt_xor | apply lt_or | apply lt_and | apply lt_div | apply lt_turn | decide)) (by repeat (first | assumption | exact lt_mod _ | apply lt_xor | apply lt_or | apply lt_and | apply lt_div | apply lt_turn | decide))) ?_
      refine d_take 26 82 rfl (by kernel_rfl) rfl hS14 (fun wS hS => runs_xor32 rfl rfl (by repeat (first | assumption | exact lt_mod _ | apply lt_xor | apply lt_or | apply lt_and | apply lt_div | apply lt_turn | decide)) (by repeat (first | assumption | exact lt_mod _ | apply lt_xor | apply lt_or | apply lt_and | apply lt_div | apply lt_turn | decide))) ?_
      refine d_take 27 83 rfl (by kernel_rfl) rfl hS14 (fun wS hS => runs_add32 rfl rfl) ?_
      refine d_take 28 84 rfl (by kernel_rfl) rfl hS14 (fun wS hS => runs_index_array (16 + n) Tryd.underlying83 ty72 rfl rfl (by omega) (by omega)) ?_
      refine d_only 29 rfl (by kernel_rfl) ?_
      replace hB := Below.chg hB hB.size hS14 (by simp)
      replace hb4 := hb4.keep hS14 (by simp)
      refine s_store1 ty72 rfl rfl rfl hb4 (by rfl) (by rw [natsC_length]; simp; omega) ?_
      intro w6 z14_29 h14_29 X14_29
      replace hB := Below.chg hB hB.size X14_29 (by simp; omega)
      replace hb4 := h14_29
      rw [show 0 + (16 + n) * 1 = 16 + n by omega, natsC_set] at hb4
      replace hb4 : Blk w6 b4 (natsC .u32 (Sp.more (Sp.first bs 16) (n + 1) ++ List.replicate (48 - (n + 1)) 0)) 83 := by
        have e1 := set_mid (Sp.more (Sp.first bs 16) n) 0 (Sp.next (Sp.more (Sp.first bs 16) n)) (List.replicate (48 - (n + 1)) 0)
        rw [hWl] at e1
        have e2 : Sp.next (Sp.more (Sp.first bs 16) n) = (((p + (Sp.turn x 7 ^^^ Sp.turn x 18 ^^^ x / 2 ^ 3)) % 4294967296 + q) % 4294967296 + (Sp.turn y 17 ^^^ Sp.turn y 19 ^^^ y / 2 ^ 10)) % 4294967296 := by
          unfold Sp.next Sp.next4
          rw [hWl, show 16 + n - 15 = n + 1 by omega, show 16 + n - 2 = n + 14 by omega, show 16 + n - 16 = n by omega, show 16 + n - 7 = n + 9 by omega, ← hx, ← hy, ← hp, ← hq]
        rw [show Sp.more (Sp.first bs 16) (n + 1) = Sp.more (Sp.first bs 16) n ++ [Sp.next (Sp.more (Sp.first bs 16) n)] from rfl, List.append_assoc, List.singleton_append, ← e1, e2, show (0 :: List.replicate (48 - (n + 1)) 0) = List.replicate (48 - n) 0 by rw [show 48 - n = (48 - (n + 1)) + 1 by omega]; rfl]
        exact hb4
      refine s_nil ⟨.inl rfl, ?_⟩
      refine d_done (by kernel_rfl) ?_
      refine hK19 _ _ ?_
      refine c_reg ?_
      refine s_val rfl rfl (runs_move rfl) ?_
      refine s_val rfl rfl (runs_add64 rfl rfl (by omega)) ?_
      refine s_val rfl rfl (runs_assign rfl) ?_
      refine s_nil ?_
      dsimp only [Post.setN]
      exact ⟨n + 1, ⟨rfl, rfl, rfl, trivial⟩, ⟨by omega, hb4, hB⟩, by omega⟩
    · obtain rfl : n = 48 := by omega
      obtain ⟨ws, hws⟩ : ∃ ws, ws = Sp.more (Sp.first bs 16) 48 := ⟨_, rfl⟩
      rw [← hws, show List.replicate (48 - 48) 0 = ([] : List Nat) from rfl, List.append_nil] at hb4
      rw [← hws] at hWl hWb
      have hbhlt := hh.lt
      have hb4lt := hb4.lt
      refine c_exit ?_
      refine hK15 _ _ ?_
      refine c_seqreg (fun K26 hK26 => ?_)
      refine s_val rfl rfl (runs_move rfl) ?_
      refine s_val rfl rfl (runs_nilCheck rfl) ?_
      refine s_val rfl rfl (runs_loadAgg ty73 rfl ((hh.keep (Chg.of_below hB) (by simp)).at) (by rw [natsC_length, hlen])) ?_
      refine s_alloc ty73 rfl rfl ?_
      intro b11 w7 e15_3 z15_3 hb11 X15_3
      have s15_3_hB := hB.size
      have s15_3_hb4 := hb4.lt
      replace hB := Below.chg hB hB.size X15_3 (by simp)
      replace hb4 := hb4.keep X15_3 (by simp)
      refine s_storeAll ty73 rfl rfl rfl hb11 (by rw [natsC_length, hlen]) rfl (natsC_one _ _) ?_
      intro w8 z15_4 h15_4 X15_4
      replace hB := Below.chg hB hB.size X15_4 (by simp; omega)
      replace hb4 := hb4.keep X15_4 (by simp; omega)
      replace hb11 := h15_4
      refine s_nil ?_
      refine hK26 _ _ ?_
      refine c_seq (fun K29 hK29 => ?_)
      refine c_seqreg (fun K30 hK30 => ?_)
      refine s_val rfl rfl (runs_move rfl) ?_
      refine s_nil ?_
      refine hK30 _ _ ?_
      refine c_block ?_
      refine c_loop (σ := Nat) (fun k => [(88, .int .i64 (k : Int)), (0, .pointer (some ⟨bh, 0, none⟩)), (4, .pointer (some ⟨b4, 0, none⟩)), (11, .pointer (some ⟨b11, 0, none⟩))]) (fun k w' => k ≤ 64 ∧ Blk w' b4 (natsC .u32 ws) 83 ∧ Blk w' b11 (natsC .u32 (Sp.rounds hs ws k)) 73 ∧ Below w.heap.size w w') (fun k => 64 - k) 0 ⟨rfl, rfl, rfl, rfl, trivial⟩ ⟨by omega, hb4, hb11, hB⟩ ?_
      intro k w9 ⟨hk, hb4, hb11, hB⟩
      obtain ⟨sa, sb, sc, sd, se, sf, sg, sh, hR, h1, h2, h3, h4, h5, h6, h7, h8⟩ := rounds_eight hs ws hlen hlt k
      have hKw := hK.keep (Chg.of_below hB) (by simp)
      refine c_seqreg (fun K31 hK31 => ?_)
      refine s_val rfl rfl (runs_lt rfl rfl) ?_
      refine s_nil ?_
      refine hK31 _ _ ?_
      refine c_seq (fun K32 hK32 => ?_)
      refine c_dec rfl (fun hk64 => ?_) (fun hk64 => ?_)
      · rw [hR] at hb11
        obtain ⟨wk, hwk⟩ : ∃ wk, wk = ws.getD k 0 := ⟨_, rfl⟩
        have gw := get_pad ws [] k (by omega)
        rw [List.append_nil, ← hwk] at gw
        obtain ⟨kk, hkk⟩ : ∃ kk, kk = Sp.ks.getD k 0 := ⟨_, rfl⟩
        have gk := get_pad Sp.ks [] k (by rw [show Sp.ks.length = 64 from rfl]; omega)
        rw [List.append_nil, ← hkk] at gk
        refine c_skip ?_
        refine hK32 _ _ ?_
        refine c_seq (fun K33 hK33 => ?_)
        refine c_block ?_
        refine c_seqreg (fun K34 hK34 => ?_)
        refine s_val rfl rfl (runs_move rfl) ?_
        refine s_val rfl rfl (runs_assign rfl) ?_
        refine s_nil ?_
        refine hK34 _ _ ?_
        refine c_seqdraw [] ([]) (by kernel_rfl) ?_
        intro K35 hK35 wd19 Xd19 hS19
        replace hB := Below.chg hB hB.size Xd19 (by simp)
        replace hb4 := hb4.keep Xd19 (by simp)
        replace hb11 := hb11.keep Xd19 (by simp)
        replace hKw := hKw.keep Xd19 (by simp)
        have zd19 := Xd19.size
        refine d_take 0 91 rfl (by kernel_rfl) rfl hS19 (fun wS hS => runs_index_array (0) Tryd.underlying73 ty72 rfl rfl (by omega) (by omega)) ?_
        refine d_take 1 92 rfl (by kernel_rfl) rfl hS19 (fun wS hS => runs_load1 ty72 rfl ((hb11.keep hS (by simp)).c1 rfl)) ?_
        refine d_take 2 93 rfl (by kernel_rfl) rfl hS19 (fun wS hS => runs_index_array (4) Tryd.underlying73 ty72 rfl rfl (by omega) (by omega)) ?_
        refine d_take 3 94 rfl (by kernel_rfl) rfl hS19 (fun wS hS => runs_load1 ty72 rfl ((hb11.keep hS (by simp)).c1 rfl)) ?_
        refine d_take 4 13 rfl (by kernel_rfl) rfl hS19 (fun wS hS => runs_assign rfl) ?_
        refine d_take 5 14 rfl (by kernel_rfl) rfl hS19 (fun wS hS => runs_assign rfl) ?_
        refine d_done (by kernel_rfl) ?_
        replace hB := Below.chg hB hB.size hS19 (by simp)
        replace hb4 := hb4.keep hS19 (by simp)
        replace hb11 := hb11.keep hS19 (by simp)
        replace hKw := hKw.keep hS19 (by simp)
        refine hK35 _ _ ?_
        refine c_seqdraw [] ([]) (by kernel_rfl) ?_
        intro K36 hK36 wd20 Xd20 hS20
        replace hB := Below.chg hB hB.size Xd20 (by simp)
        replace hb4 := hb4.keep Xd20 (by simp)
        replace hb11 := hb11.keep Xd20 (by simp)
        replace hKw := hKw.keep Xd20 (by simp)
        have zd20 := Xd20.size
        refine d_take 0 95 rfl (by kernel_rfl) rfl hS20 (fun wS hS => runs_index_array (7) Tryd.underlying73 ty72 rfl rfl (by omega) (by omega)) ?_
        refine d_take 1 96 rfl (by kernel_rfl) rfl hS20 (fun wS hS => runs_load1 ty72 rfl ((hb11.keep hS (by simp)).c1 rfl)) ?_
        refine d_take 2 97 rfl (by kernel_rfl) rfl hS20 (fun wS hS => runs_move rfl) ?_
        refine d_take 4 99 rfl (by kernel_rfl) rfl hS20 (fun wS hS => runs_move rfl) ?_
        refine d_take 7 102 rfl (by kernel_rfl) rfl hS20 (fun wS hS => runs_move rfl) ?_
        refine d_take 11 106 rfl (by kernel_rfl) rfl hS20 (fun wS hS => runs_move rfl) ?_
        refine d_take 12 107 rfl (by kernel_rfl) rfl hS20 (fun wS hS => runs_index_array (5) Tryd.underlying73 ty72 rfl rfl (by omega) (by omega)) ?_
        refine d_take 13 108 rfl (by kernel_rfl) rfl hS20 (fun wS hS => runs_load1 ty72 rfl ((hb11.keep hS (by simp)).c1 rfl)) ?_
        refine d_take 14 109 rfl (by kernel_rfl) rfl hS20 (fun wS hS => runs_and32 rfl rfl (by repeat (first | assumption | exact lt_mod _ | apply lt_xor | apply lt_or | apply lt_and | apply lt_div | apply lt_turn | decide)) (by repeat (first | assumption | exact lt_mod _ | apply lt_xor | apply lt_or | apply lt_and | apply lt_div | apply lt_turn | decide))) ?_
        refine d_take 15 110 rfl (by kernel_rfl) rfl hS20 (fun wS hS => runs_move rfl) ?_
        refine d_take 16 111 rfl (by kernel_rfl) rfl hS20 (fun wS hS => runs_not32 rfl (by repeat (first | assumption | exact lt_mod _ | apply lt_xor | apply lt_or | apply lt_and | apply lt_div | apply lt_turn | decide))) ?_
        refine d_take 17 112 rfl (by kernel_rfl) rfl hS20 (fun wS hS => runs_index_array (6) Tryd.underlying73 ty72 rfl rfl (by omega) (by omega)) ?_
        refine d_take 18 113 rfl (by kernel_rfl) rfl hS20 (fun wS hS => runs_load1 ty72 rfl ((hb11.keep hS (by simp)).c1 rfl)) ?_
        refine d_take 19 114 rfl (by kernel_rfl) rfl hS20 (fun wS hS => runs_and32 rfl rfl (by repeat (first | assumption | exact lt_mod _ | apply lt_xor | apply lt_or | apply lt_and | apply lt_div | apply lt_turn | decide)) (by repeat (first | assumption | exact lt_mod _ | apply lt_xor | apply lt_or | apply lt_and | apply lt_div | apply lt_turn | decide))) ?_
        refine d_take 20 115 rfl (by kernel_rfl) rfl hS20 (fun wS hS => runs_xor32 rfl rfl (by repeat (first | assumption | exact lt_mod _ | apply lt_xor | apply lt_or | apply lt_and | apply lt_div | apply lt_turn | decide)) (by repeat (first | assumption | exact lt_mod _ | apply lt_xor | apply lt_or | apply lt_and | apply lt_div | apply lt_turn | decide))) ?_
        refine d_take 22 117 rfl (by kernel_rfl) rfl hS20 (fun wS hS => runs_move rfl) ?_
        refine d_take 23 118 rfl (by kernel_rfl) rfl hS20 (fun wS hS => runs_index_array (k) Tryd.underlying83 ty72 rfl rfl (by omega) (by omega)) ?_
        refine d_take 24 119 rfl (by kernel_rfl) rfl hS20 (fun wS hS => runs_load1 ty72 rfl (by have := (hKw.keep hS (by simp)) k _ (natsC_get gk); rwa [show 0 + k = 0 + k * 1 by omega] at this)) ?_
        refine d_take 26 121 rfl (by kernel_rfl) rfl hS20 (fun wS hS => runs_move rfl) ?_
        refine d_take 27 122 rfl (by kernel_rfl) rfl hS20 (fun wS hS => runs_index_array (k) Tryd.underlying83 ty72 rfl rfl (by omega) (by omega)) ?_
        refine d_take 28 123 rfl (by kernel_rfl) rfl hS20 (fun wS hS => runs_load1 ty72 rfl ((hb4.keep hS (by simp)).c1 (natsC_get gw))) ?_
        refine d_only 3 rfl (by kernel_rfl) ?_
        refine s_callf (xs := [.tmp 97, .const (.int .i64 6)]) rfl rfl Tryd.func35 rfl (by kernel_rfl) rfl (turn_calls se 6 _ h5 (by decide) (by decide)) ?_
        rintro _ w20a ⟨rfl, X20_3⟩
        have zs20_3 := X20_3.size
        replace hS20 : Chg wd20 _ [] := hS20.trans X20_3
        refine s_nil ⟨.inr hS20, ?_⟩
        refine d_only 5 rfl (by kernel_rfl) ?_
        refine s_callf (xs := [.tmp 99, .const (.int .i64 11)]) rfl rfl Tryd.func35 rfl (by kernel_rfl) rfl (turn_calls se 11 _ h5 (by decide) (by decide)) ?_
        rintro _ w20b ⟨rfl, X20_5⟩
        have zs20_5 := X20_5.size
        replace hS20 : Chg wd20 _ [] := hS20.trans X20_5
        refine s_nil ⟨.inr hS20, ?_⟩
        refine d_take 6 101 rfl (by kernel_rfl) rfl hS20 (fun wS hS => runs_xor32 rfl rfl (by repeat (first | assumption | exact lt_mod _ | apply lt_xor | apply lt_or | apply lt_and | apply lt_div | apply lt_turn | decide)) (by repeat (first | assumption | exact lt_mod _ | apply lt_xor | apply lt_or | apply lt_and | apply lt_div | apply lt_turn | decide))) ?_
        refine d_only 8 rfl (by kernel_rfl) ?_
        refine s_callf (xs := [.tmp 102, .const (.int .i64 25)]) rfl rfl Tryd.func35 rfl (by kernel_rfl) rfl (turn_calls se 25 _ h5 (by decide) (by decide)) ?_
        rintro _ w20c ⟨rfl, X20_8⟩
        have zs20_8 := X20_8.size
        replace hS20 : Chg wd20 _ [] := hS20.trans X20_8
        refine s_nil ⟨.inr hS20, ?_⟩
        refine d_take 9 104 rfl (by kernel_rfl) rfl hS20 (fun wS hS => runs_xor32 rfl rfl (by repeat (first | assumption | exact lt_mod _ | apply lt_xor | apply lt_or | apply lt_and | apply lt_div | apply lt_turn | decide)) (by repeat (first | assumption | exact lt_mod _ | apply lt_xor | apply lt_or | apply lt_and | apply lt_div | apply lt_turn | decide))) ?_
        refine d_take 10 105 rfl (by kernel_rfl) rfl hS20 (fun wS hS => runs_add32 rfl rfl) ?_
        refine d_take 21 116 rfl (by kernel_rfl) rfl hS20 (fun wS hS => runs_add32 rfl rfl) ?_
        refine d_take 25 120 rfl (by kernel_rfl) rfl hS20 (fun wS hS => runs_add32 rfl rfl) ?_
        refine d_take 29 124 rfl (by kernel_rfl) rfl hS20 (fun wS hS => runs_add32 rfl rfl) ?_
        refine d_take 30 15 rfl (by kernel_rfl) rfl hS20 (fun wS hS => runs_assign rfl) ?_
        refine d_done (by kernel_rfl) ?_
        replace hB := Below.chg hB hB.size hS20 (by simp)
        replace hb4 := hb4.keep hS20 (by simp)
        replace hb11 := hb11.keep hS20 (by simp)
        replace hKw := hKw.keep hS20 (by simp)
        refine hK36 _ _ ?_
        refine c_seqdraw [] ([]) (by kernel_rfl) ?_
        intro K40 hK40 wd21 Xd21 hS21
        replace hB := Below.chg hB hB.size Xd21 (by simp)
        replace hb4 := hb4.keep Xd21 (by simp)
        replace hb11 := hb11.keep Xd21 (by simp)
        replace hKw := hKw.keep Xd21 (by simp)
        have zd21 := Xd21.size
        refine d_take 0 125 rfl (by kernel_rfl) rfl hS21 (fun wS hS => runs_move rfl) ?_
        refine d_take 2 127 rfl (by kernel_rfl) rfl hS21 (fun wS hS => runs_move rfl) ?_
        refine d_take 5 130 rfl (by kernel_rfl) rfl hS21 (fun wS hS => runs_move rfl) ?_
        refine d_take 8 133 rfl (by kernel_rfl) rfl hS21 (fun wS hS => runs_move rfl) ?_
        refine d_take 9 134 rfl (by kernel_rfl) rfl hS21 (fun wS hS => runs_index_array (1) Tryd.underlying73 ty72 rfl rfl (by omega) (by omega)) ?_
        refine d_take 10 135 rfl (by kernel_rfl) rfl hS21 (fun wS hS => runs_load1 ty72 rfl ((hb11.keep hS (by simp)).c1 rfl)) ?_
        refine d_take 11 136 rfl (by kernel_rfl) rfl hS21 (fun wS hS => runs_and32 rfl rfl (by repeat (first | assumption | exact lt_mod _ | apply lt_xor | apply lt_or | apply lt_and | apply lt_div | apply lt_turn | decide)) (by repeat (first | assumption | exact lt_mod _ | apply lt_xor | apply lt_or | apply lt_and | apply lt_div | apply lt_turn | decide))) ?_
        refine d_take 12 137 rfl (by kernel_rfl) rfl hS21 (fun wS hS => runs_move rfl) ?_
        refine d_take 13 138 rfl (by kernel_rfl) rfl hS21 (fun wS hS => runs_index_array (2) Tryd.underlying73 ty72 rfl rfl (by omega) (by omega)) ?_
        refine d_take 14 139 rfl (by kernel_rfl) rfl hS21 (fun wS hS => runs_load1 ty72 rfl ((hb11.keep hS (by simp)).c1 rfl)) ?_
        refine d_take 15 140 rfl (by kernel_rfl) rfl hS21 (fun wS hS => runs_and32 rfl rfl (by repeat (first | assumption | exact lt_mod _ | apply lt_xor | apply lt_or | apply lt_and | apply lt_div | apply lt_turn | decide)) (by repeat (first | assumption | exact lt_mod _ | apply lt_xor | apply lt_or | apply lt_and | apply lt_div | apply lt_turn | decide))) ?_
        refine d_take 16 141 rfl (by kernel_rfl) rfl hS21 (fun wS hS => runs_xor32 rfl rfl (by repeat (first | assumption | exact lt_mod _ | apply lt_xor | apply lt_or | apply lt_and | apply lt_div | apply lt_turn | decide)) (by repeat (first | assumption | exact lt_mod _ | apply lt_xor | apply lt_or | apply lt_and | apply lt_div | apply lt_turn | decide))) ?_
        refine d_take 17 142 rfl (by kernel_rfl) rfl hS21 (fun wS hS => runs_index_array (1) Tryd.underlying73 ty72 rfl rfl (by omega) (by omega)) ?_
        refine d_take 18 143 rfl (by kernel_rfl) rfl hS21 (fun wS hS => runs_load1 ty72 rfl ((hb11.keep hS (by simp)).c1 rfl)) ?_
        refine d_take 19 144 rfl (by kernel_rfl) rfl hS21 (fun wS hS => runs_index_array (2) Tryd.underlying73 ty72 rfl rfl (by omega) (by omega)) ?_
        refine d_take 20 145 rfl (by kernel_rfl) rfl hS21 (fun wS hS => runs_load1 ty72 rfl ((hb11.keep hS (by simp)).c1 rfl)) ?_
        refine d_take 21 146 rfl (by kernel_rfl) rfl hS21 (fun wS hS => runs_and32 rfl rfl (by repeat (first | assumption | exact lt_mod _ | apply lt_xor | apply lt_or | apply lt_and | apply lt_div | apply lt_turn | decide)) (by repeat (first | assumption | exact lt_mod _ | apply lt_xor | apply lt_or | apply lt_and | apply lt_div | apply lt_turn | decide))) ?_
        refine d_take 22 147 rfl (by kernel_rfl) rfl hS21 (fun wS hS => runs_xor32 rfl rfl (by repeat (first | assumption | exact lt_mod _ | apply lt_xor | apply lt_or | apply lt_and | apply lt_div | apply lt_turn | decide)) (by repeat (first | assumption | exact lt_mod _ | apply lt_xor | apply lt_or | apply lt_and | apply lt_div | apply lt_turn | decide))) ?_
        refine d_only 1 rfl (by kernel_rfl) ?_
        refine s_callf (xs := [.tmp 125, .const (.int .i64 2)]) rfl rfl Tryd.func35 rfl (by kernel_rfl) rfl (turn_calls sa 2 _ h1 (by decide) (by decide)) ?_
        rintro _ w21a ⟨rfl, X21_1⟩
        have zs21_1 := X21_1.size
        replace hS21 : Chg wd21 _ [] := hS21.trans X21_1
        refine s_nil ⟨.inr hS21, ?_⟩
        refine d_only 3 rfl (by kernel_rfl) ?_
        refine s_callf (xs := [.tmp 127, .const (.int .i64 13)]) rfl rfl Tryd.func35 rfl (by kernel_rfl) rfl (turn_calls sa 13 _ h1 (by decide) (by decide)) ?_
        rintro _ w21b ⟨rfl, X21_3⟩
        have zs21_3 := X21_3.size
        replace hS21 : Chg wd21 _ [] := hS21.trans X21_3
        refine s_nil ⟨.inr hS21, ?_⟩
        refine d_take 4 129 rfl (by kernel_rfl) rfl hS21 (fun wS hS => runs_xor32 rfl rfl (by repeat (first | assumption | exact lt_mod _ | apply lt_xor | apply lt_or | apply lt_and | apply lt_div | apply lt_turn | decide)) (by repeat (first | assumption | exact lt_mod _ | apply lt_xor | apply lt_or | apply lt_and | apply lt_div | apply lt_turn | decide))) ?_
        refine d_only 6 rfl (by kernel_rfl) ?_
        refine s_callf (xs := [.tmp 130, .const (.int .i64 22)]) rfl rfl Tryd.func35 rfl (by kernel_rfl) rfl (turn_calls sa 22 _ h1 (by decide) (by decide)) ?_
        rintro _ w21c ⟨rfl, X21_6⟩
        have zs21_6 := X21_6.size
        replace hS21 : Chg wd21 _ [] := hS21.trans X21_6
        refine s_nil ⟨.inr hS21, ?_⟩
        refine d_take 7 132 rfl (by kernel_rfl) rfl hS21 (fun wS hS => runs_xor32 rfl rfl (by repeat (first | assumption | exact lt_mod _ | apply lt_xor | apply lt_or | apply lt_and | apply lt_div | apply lt_turn | decide)) (by repeat (first | assumption | exact lt_mod _ | apply lt_xor | apply lt_or | apply lt_and | apply lt_div | apply lt_turn | decide))) ?_
        refine d_take 23 148 rfl (by kernel_rfl) rfl hS21 (fun wS hS => runs_add32 rfl rfl) ?_
        refine d_take 24 16 rfl (by kernel_rfl) rfl hS21 (fun wS hS => runs_assign rfl) ?_
        refine d_done (by kernel_rfl) ?_
        replace hB := Below.chg hB hB.size hS21 (by simp)
        replace hb4 := hb4.keep hS21 (by simp)
        replace hb11 := hb11.keep hS21 (by simp)
        replace hKw := hKw.keep hS21 (by simp)
        refine hK40 _ _ ?_
        refine c_reg ?_
        refine s_val rfl rfl (runs_move rfl) ?_
        refine s_val rfl rfl (runs_move rfl) ?_
        refine s_val rfl rfl (runs_add32 rfl rfl) ?_
        refine s_val rfl rfl (runs_move rfl) ?_
        refine s_val rfl rfl (runs_index_array (1) Tryd.underlying73 ty72 rfl rfl (by omega) (by omega)) ?_
        refine s_val rfl rfl (runs_load1 ty72 rfl (hb11.c1 rfl)) ?_
        refine s_val rfl rfl (runs_index_array (2) Tryd.underlying73 ty72 rfl rfl (by omega) (by omega)) ?_
        refine s_val rfl rfl (runs_load1 ty72 rfl (hb11.c1 rfl)) ?_
        refine s_val rfl rfl (runs_index_array (3) Tryd.underlying73 ty72 rfl rfl (by omega) (by omega)) ?_
        refine s_val rfl rfl (runs_load1 ty72 rfl (hb11.c1 rfl)) ?_
        refine s_val rfl rfl (runs_move rfl) ?_
        refine s_val rfl rfl (runs_add32 rfl rfl) ?_
        refine s_val rfl rfl (runs_move rfl) ?_
        refine s_val rfl rfl (runs_index_array (5) Tryd.underlying73 ty72 rfl rfl (by omega) (by omega)) ?_
        refine s_val rfl rfl (runs_load1 ty72 rfl (hb11.c1 rfl)) ?_
        refine s_val rfl rfl (runs_index_array (6) Tryd.underlying73 ty72 rfl rfl (by omega) (by omega)) ?_
        refine s_val rfl rfl (runs_load1 ty72 rfl (hb11.c1 rfl)) ?_
        refine s_val rfl rfl (runs_build_arr (xs := [.tmp 151, .tmp 152, .tmp 154, .tmp 156, .tmp 160, .tmp 161, .tmp 163, .tmp 165]) Tryd.underlying73 ty72 ty73 rfl rfl rfl rfl (by simp [Value.cells])) ?_
        refine s_storeAll ty73 rfl rfl rfl hb11 rfl rfl (by simp [flatC, Value.cells, Value.oneCell']) ?_
        intro w10 z22_18 h22_18 X22_18
        replace hB := Below.chg hB hB.size X22_18 (by simp; omega)
        replace hb4 := hb4.keep X22_18 (by simp; omega)
        replace hKw := hKw.keep X22_18 (by simp; omega)
        replace hb11 := h22_18
        replace hb11 : Blk w10 b11 (natsC .u32 (Sp.rounds hs ws (k + 1))) 73 := by
          rw [show Sp.rounds hs ws (k + 1) = Sp.round (Sp.rounds hs ws k) (Sp.ks.getD k 0) (ws.getD k 0) from rfl, hR, ← hwk, ← hkk]
          exact hb11
        refine s_nil ?_
        refine hK33 _ _ ?_
        refine c_reg ?_
        refine s_val rfl rfl (runs_add64 rfl rfl (by omega)) ?_
        refine s_val rfl rfl (runs_move rfl) ?_
        refine s_nil ?_
        dsimp only [Post.setN]
        exact ⟨k + 1, ⟨rfl, rfl, rfl, rfl, trivial⟩, ⟨by omega, hb4, hb11, hB⟩, by omega⟩
      · obtain rfl : k = 64 := by omega
        obtain ⟨st, hst⟩ : ∃ st, st = Sp.rounds hs ws 64 := ⟨_, rfl⟩
        rw [← hst] at hb11
        have hstl : st.length = 8 := by rw [hst, hR]; rfl
        have hbh := hh.keep (Chg.of_below hB) (by simp)
        have hC : Chg w _ [bh] := (Chg.of_below hB).mono (by simp)
        refine c_exit ?_
        refine hK29 _ _ ?_
        refine c_seqreg (fun K45 hK45 => ?_)
        refine s_val rfl rfl (runs_move rfl) ?_
        refine s_nil ?_
        refine hK45 _ _ ?_
        refine c_block ?_
        refine c_loop (σ := Nat) (fun i => [(168, .int .i64 (i : Int)), (0, .pointer (some ⟨bh, 0, none⟩)), (11, .pointer (some ⟨b11, 0, none⟩))]) (fun i w' => i ≤ 8 ∧ Blk w' b11 (natsC .u32 st) 73 ∧ Blk w' bh (natsC .u32 ((Sp.add8 hs st).take i ++ hs.drop i)) 73 ∧ Chg w w' [bh]) (fun i => 8 - i) 0 ⟨rfl, rfl, rfl, trivial⟩ ⟨by omega, hb11, by simpa using hbh, hC⟩ ?_
        intro i w11 ⟨hi8, hb11, hbh, hC⟩
        have hAl : (Sp.add8 hs st).length = 8 := by simp [Sp.add8, hlen, hstl]
        have hne : b11 ≠ bh := by omega
        refine c_seqreg (fun K46 hK46 => ?_)
        refine s_val rfl rfl (runs_lt rfl rfl) ?_
        refine s_nil ?_
        refine hK46 _ _ ?_
        refine c_seq (fun K47 hK47 => ?_)
        refine c_dec rfl (fun hi8' => ?_) (fun hi8' => ?_)
        · obtain ⟨u, hu⟩ : ∃ u, hs[i]? = some u := ⟨_, List.getElem?_eq_getElem (by omega)⟩
          obtain ⟨v, hv⟩ : ∃ v, st[i]? = some v := ⟨_, List.getElem?_eq_getElem (by omega)⟩
          have hgi : ((Sp.add8 hs st).take i ++ hs.drop i)[i]? = some u := by
            rw [List.getElem?_append_right (by simp; omega), List.getElem?_drop]
            rw [show i + (i - ((Sp.add8 hs st).take i).length) = i by simp; omega]; exact hu
          refine c_skip ?_
          refine hK47 _ _ ?_
          refine c_seq (fun K48 hK48 => ?_)
          refine c_block ?_
          refine c_seqreg (fun K49 hK49 => ?_)
          refine s_val rfl rfl (runs_move rfl) ?_
          refine s_val rfl rfl (runs_assign rfl) ?_
          refine s_nil ?_
          refine hK49 _ _ ?_
          refine c_drawX [11] ([]) (by kernel_rfl) ?_
          intro wd27 Xd27 hS27
          replace hb11 := hb11.keep Xd27 (by simp)
          replace hbh := hbh.keep Xd27 (by simp)
          replace hC : Chg w _ [bh] := (hC.trans Xd27).mono (by intro k hk hlt; simp at hk ⊢ <;> first | omega | grind)
          have zd27 := Xd27.size
          refine d_take 0 171 rfl (by kernel_rfl) rfl hS27 (fun wS hS => runs_move rfl) ?_
          refine d_take 1 172 rfl (by kernel_rfl) rfl hS27 (fun wS hS => runs_move rfl) ?_
          refine d_take 2 173 rfl (by kernel_rfl) rfl hS27 (fun wS hS => runs_nilCheck rfl) ?_
          refine d_take 3 174 rfl (by kernel_rfl) rfl hS27 (fun wS hS => runs_index_array (i) Tryd.underlying73 ty72 rfl rfl (by omega) (by omega)) ?_
          refine d_take 4 175 rfl (by kernel_rfl) rfl hS27 (fun wS hS => runs_load1 ty72 rfl ((hbh.keep hS (by simp)).c1 (natsC_get hgi))) ?_
          refine d_take 5 176 rfl (by kernel_rfl) rfl hS27 (fun wS hS => runs_move rfl) ?_
          refine d_take 6 177 rfl (by kernel_rfl) rfl hS27 (fun wS hS => runs_index_array (i) Tryd.underlying73 ty72 rfl rfl (by omega) (by omega)) ?_
          refine d_take 7 178 rfl (by kernel_rfl) rfl hS27 (fun wS hS => runs_load1 ty72 rfl ((hb11.keep hS (by simp)).c1 (natsC_get hv))) ?_
          refine d_take 8 179 rfl (by kernel_rfl) rfl hS27 (fun wS hS => runs_add32 rfl rfl) ?_
          refine d_only 9 rfl (by kernel_rfl) ?_
          refine s_val rfl rfl (runs_nilCheck rfl) ?_
          refine s_nil ⟨.inr hS27, ?_⟩
          refine d_take 10 181 rfl (by kernel_rfl) rfl hS27 (fun wS hS => runs_index_array (i) Tryd.underlying73 ty72 rfl rfl (by omega) (by omega)) ?_
          refine d_only 11 rfl (by kernel_rfl) ?_
          replace hb11 := hb11.keep hS27 (by simp)
          replace hbh := hbh.keep hS27 (by simp)
          replace hC : Chg w _ [bh] := (hC.trans hS27).mono (by intro k hk hlt; simp at hk ⊢ <;> first | omega | grind)
          refine s_store1 ty72 rfl rfl rfl hbh (by rfl) (by rw [natsC_length]; simp; omega) ?_
          intro w12 z27_11 h27_11 X27_11
          replace hb11 := hb11.keep X27_11 (by simp; omega)
          replace hC : Chg w _ [bh] := (hC.trans X27_11).mono (by intro k hk hlt; simp at hk ⊢ <;> first | omega | grind)
          replace hbh := h27_11
          rw [show 0 + i * 1 = i by omega, natsC_set] at hbh
          replace hbh : Blk w12 bh (natsC .u32 ((Sp.add8 hs st).take (i + 1) ++ hs.drop (i + 1))) 73 := by
            have hAi : (Sp.add8 hs st)[i]? = some ((u + v) % 4294967296) := by simp [Sp.add8, List.getElem?_zipWith, hu, hv]
            have e : ((Sp.add8 hs st).take i ++ hs.drop i).set i ((u + v) % 4294967296) = (Sp.add8 hs st).take (i + 1) ++ hs.drop (i + 1) := by
              rw [List.drop_eq_getElem_cons (show i < hs.length by omega)]
              have e1 := set_mid ((Sp.add8 hs st).take i) hs[i] ((u + v) % 4294967296) (hs.drop (i + 1))
              rw [show ((Sp.add8 hs st).take i).length = i by simp; omega] at e1
              rw [e1, List.take_add_one, hAi]; simp
            rw [← e]; exact hbh
          refine s_nil ⟨.inl rfl, ?_⟩
          refine d_done (by kernel_rfl) ?_
          refine hK48 _ _ ?_
          refine c_reg ?_
          refine s_val rfl rfl (runs_add64 rfl rfl (by omega)) ?_
          refine s_val rfl rfl (runs_move rfl) ?_
          refine s_nil ?_
          dsimp only [Post.setN]
          exact ⟨i + 1, ⟨rfl, rfl, rfl, trivial⟩, ⟨by omega, hb11, hbh, hC⟩, by omega⟩
        · obtain rfl : i = 8 := by omega
          refine c_exit ?_
          refine hnrm _ _ ?_
          refine ends0 ⟨rfl, ?_, hC⟩
          rw [List.drop_eq_nil_of_le (by omega), List.append_nil, List.take_of_length_le (by omega)] at hbh
          rw [show Sp.block hs bs = Sp.add8 hs st by rw [hst, hws]; rfl]
          exact hbh

end Go.Proofs.YtmmijecookbajaaDoor
