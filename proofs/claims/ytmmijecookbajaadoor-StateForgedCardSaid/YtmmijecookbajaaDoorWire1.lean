/- Part Wire1 of the proofs on this seat. Conditions: none beyond those in the theorems. By an AI agent. -/
import Derived.Test.YtmmijecookbajaaDoorWire0
namespace Go.Proofs.YtmmijecookbajaaDoor
open Go Go.RowKit

/-- A Writer: the struct's block bw, its slice v, what was laid. -/
structure WrV (w : World) (bw : Nat) (v : Value) (bs : List Nat) : Prop where
  blk : Blk w bw [v] 77
  own : w.ownsRow (bw + 1) 5 1 v bs.length (natsC .u8 bs)
/-- What a call on a Writer leaves. -/
structure WrP (w w' : World) (bw : Nat) (v v' : Value) (bs : List Nat) : Prop where
  wr : WrV w' bw v' bs
  chg : Chg w w' (bw :: v.ownBlock.toList)
  new : ∀ k, v'.ownBlock = some k → v.ownBlock = some k ∨ w.heap.size ≤ k
theorem WrP.refl {w : World} {bw : Nat} {v : Value} {bs : List Nat} (h : WrV w bw v bs) : WrP w w bw v v bs := ⟨h, Chg.refl _ _, fun _ hk => .inl hk⟩
theorem WrP.trans {w w1 w2 : World} {bw : Nat} {v v1 v2 : Value} {bs bs2 : List Nat} (h : WrP w w1 bw v v1 bs) (k : WrP w1 w2 bw v1 v2 bs2) : WrP w w2 bw v v2 bs2 := by
  have hs := h.chg.size
  refine ⟨k.wr, (h.chg.trans k.chg).mono ?_, fun b hb => ?_⟩
  · intro b hb hlt
    simp only [List.mem_append, List.mem_cons, Option.mem_toList] at hb ⊢
    rcases hb with hb | rfl | hb
    · exact hb
    · exact .inl rfl
    · rcases h.new b hb with h1 | h1
      · exact .inr h1
      · omega
  · rcases k.new b hb with h1 | h1
    · exact h.new b h1
    · exact .inr (by omega)
/-- A step besides that turns nothing that was there. -/
theorem WrP.then0 {w w1 w2 : World} {bw : Nat} {v v1 : Value} {bs : List Nat} (h : WrP w w1 bw v v1 bs) (x : Chg w1 w2 []) : WrP w w2 bw v v1 bs :=
  ⟨⟨h.wr.blk.keep x (by simp), own_keep h.wr.own x (by simp)⟩, (h.chg.trans x).mono (by intro k hk _; simpa using hk), h.new⟩
theorem nums_len (l : List Nm) : (l.flatMap numC).length = l.length * 2 := by
  induction l with
  | nil => rfl
  | cons x l ih => simp only [List.flatMap_cons, List.length_append, ih, numC_len, List.length_cons]; omega
theorem numsB_len (l : List Nm) : (l.flatMap Sp.numB).length = l.length * 16 := by
  induction l with
  | nil => rfl
  | cons x l ih => simp only [List.flatMap_cons, List.length_append, ih, numB_len, List.length_cons]; omega
theorem intsB_len (n : Nat) (l : List Int) : (l.flatMap (Sp.intB n)).length = l.length * n := by
  induction l with
  | nil => simp
  | cons x l ih => simp only [List.flatMap_cons, List.length_append, ih, intB_len, List.length_cons, Nat.add_mul]; omega
theorem intB_get (n : Nat) (y : Int) {j : Nat} (hj : j < n) : (Sp.intB n y)[j]? = some (y / 2 ^ (8 * (n - 1 - j)) % 256).toNat := by
  unfold Sp.intB
  rw [List.getElem?_map, List.getElem?_range hj]; rfl
theorem shr_byteI (y : Int) (k : Nat) (hk : k ≤ 63) : IntKind.u8.wrap (y.fdiv (2 ^ (min (k : Int).toNat 64))) = ((y / 2 ^ k % 256).toNat : Int) := by
  have hp : (0 : Int) ≤ 2 ^ k := Int.pow_nonneg (by decide)
  rw [wrap_u8, Int.toNat_natCast, show min k 64 = k by omega, Int.fdiv_eq_ediv_of_nonneg _ hp]
  omega
theorem own_one {w : World} {B n size : Nat} {e : TypeId} {v : Value} {xs : List Value} (h : w.ownsRow B e size v n xs) : v.oneCell' = true := by
  rcases h.2 with ⟨rfl, _⟩ | ⟨g, cap, cur, rfl, _⟩ <;> rfl
theorem nums_at (l : List Nm) (i : Nat) (x : Nm) (h : l[i]? = some x) : ((l.flatMap numC).drop (i * 2)).take 2 = numC x := by
  induction l generalizing i with
  | nil => simp at h
  | cons y l ih =>
    cases i with
    | zero => simp at h; subst h; rfl
    | succ i =>
      simp only [List.getElem?_cons_succ] at h
      simp only [List.flatMap_cons]
      rw [List.drop_append, List.drop_eq_nil_of_le (by rw [numC_len]; omega), List.nil_append, numC_len, show (i + 1) * 2 - 2 = i * 2 by omega]
      exact ih i h

set_option maxHeartbeats 2000000 in
theorem wrNum_calls (bw bl : Nat) (v0 : Value) (bs : List Nat) (l : List Nm) (m : Nat) (w : World) (hW : WrV w bw v0 bs) (hbl : Blk w bl (l.flatMap numC) 24) (hm : l.length = m) (hok : ∀ x ∈ l, NOk x) (hn : bs.length + m * 16 ≤ 1073741824) :
    CallsR Tryd.prog 31 #[.pointer (some ⟨bw, 0, none⟩), .slice (some ⟨bl, 0, none⟩) m m] w fun v w' => v = .pointer (some ⟨bw, 0, none⟩) ∧ ∃ v', WrP w w' bw v0 v' (bs ++ l.flatMap Sp.numB) := by
  refine f_enter (l := [.pointer (some ⟨bw, 0, none⟩), .slice (some ⟨bl, 0, none⟩) m m]) Tryd.func31 rfl rfl rfl rfl ?_
  have hb0 := hW.blk.lt
  intro Qf hnrm hret
  refine c_seqreg (fun K1 hK1 => ?_)
  refine s_val rfl rfl (runs_assign rfl) ?_
  refine s_nil ?_
  refine hK1 _ _ ?_
  refine c_seq (fun K2 hK2 => ?_)
  refine c_seqreg (fun K3 hK3 => ?_)
  refine s_val rfl rfl (runs_move rfl) ?_
  refine s_val rfl rfl (runs_len_slice Tryd.underlying85 rfl) ?_
  refine s_val rfl rfl (runs_move rfl) ?_
  refine s_nil ?_
  refine hK3 _ _ ?_
  refine c_block ?_
  refine c_loop (σ := Nat) (fun i => [(9, .int .i64 (i : Int)), (8, .int .i64 (m : Int)), (7, .slice (some ⟨bl, 0, none⟩) m m), (0, .pointer (some ⟨bw, 0, none⟩))]) (fun i w' => i ≤ m ∧ Blk w' bl (l.flatMap numC) 24 ∧ ∃ v, WrP w w' bw v0 v (bs ++ (l.take i).flatMap Sp.numB)) (fun i => m - i) 0 ⟨rfl, rfl, rfl, rfl, trivial⟩ ⟨Nat.zero_le _, hbl, v0, by simpa using WrP.refl hW⟩ ?_
  rintro i wi ⟨hi, hbl, v, ⟨⟨hwb, hown⟩, hX, hnew⟩⟩
  have hzX := hX.size
  have hbll := hbl.lt
  have hbwl := hwb.lt
  have hnb : ((l.take i).flatMap Sp.numB).length = i * 16 := by
    rw [numsB_len, List.length_take]; omega
  refine c_seqreg (fun K4 hK4 => ?_)
  refine s_val rfl rfl (runs_lt rfl rfl) ?_
  refine s_nil ?_
  refine hK4 _ _ ?_
  refine c_seq (fun K5 hK5 => ?_)
  refine c_dec rfl (fun hin => ?_) (fun hin => ?_)
  · obtain ⟨x, hx⟩ : ∃ x, l[i]? = some x := ⟨_, List.getElem?_eq_getElem (by omega)⟩
    have hxo := hok x (List.mem_of_getElem? hx)
    have hat : At wi bl (0 + i * 2) (numC x) := by have := hbl.at.sub (i * 2) 2; rwa [nums_at l i x hx] at this
    refine c_skip ?_
    refine hK5 _ _ ?_
    refine c_seq (fun K6 hK6 => ?_)
    refine c_block ?_
    refine c_seqreg (fun K7 hK7 => ?_)
    refine s_val rfl rfl (runs_index_slice (i) Tryd.underlying85 ty24 rfl rfl (by omega) (by omega)) ?_
    refine s_val rfl rfl (runs_loadAgg ty24 rfl hat (numC_len x)) ?_
    refine s_alloc ty24 rfl rfl ?_
    intro b6 w32 e3_2 z3_2 hb6 X3_2
    have s3_2_hwb := hwb.lt
    have s3_2_hbl := hbl.lt
    have s3_2_hX := hX.size
    replace hwb := hwb.keep X3_2 (by simp)
    replace hown := own_keep hown X3_2 (by simp)
    replace hbl := hbl.keep X3_2 (by simp)
    replace hX : Chg w _ (bw :: v0.ownBlock.toList) := (hX.trans X3_2).mono (by intro k hk hlt; simp at hk ⊢ <;> first | omega | grind)
    refine s_storeAll ty24 rfl rfl rfl hb6 (numC_len x) rfl (numC_one _) ?_
    intro w33 z3_3 h3_3 X3_3
    replace hwb := hwb.keep X3_3 (by simp; omega)
    replace hown := own_keep hown X3_3 (fun k hk hm => own_ne hown hb6 (by decide) (by simp at hm; rw [← hm]; exact hk))
    replace hbl := hbl.keep X3_3 (by simp; omega)
    replace hX : Chg w _ (bw :: v0.ownBlock.toList) := (hX.trans X3_3).mono (by intro k hk hlt; simp only [List.mem_append, List.mem_singleton] at hk; rcases hk with hk | hk; exact hk; omega)
    replace hb6 := h3_3
    refine s_nil ?_
    have hzX3 := hX.size
    have hlb6 := hb6.lt
    refine hK7 _ _ ?_
    refine c_drawX [10] (v.ownBlock.toList) (by kernel_rfl) ?_
    intro wd4 Xd4 hS4
    replace hwb := hwb.keep Xd4 (by simp)
    replace hown := own_keep hown Xd4 (by simp)
    replace hbl := hbl.keep Xd4 (by simp)
    replace hX : Chg w _ (bw :: v0.ownBlock.toList) := (hX.trans Xd4).mono (by intro k hk hlt; simp at hk ⊢ <;> first | omega | grind)
    replace hb6 := hb6.keep Xd4 (by simp)
    have zd4 := Xd4.size
    have hbw1 := hwb.lt
    have hdo : bw ∉ v.ownBlock.toList := fun hm => by have := (hown.lt _ (by simpa using hm)).1; omega
    refine d_take 0 13 rfl (by kernel_rfl) rfl hS4 (fun wS hS => runs_move rfl) ?_
    refine d_take 1 14 rfl (by kernel_rfl) rfl hS4 (fun wS hS => runs_move rfl) ?_
    refine d_take 2 15 rfl (by kernel_rfl) rfl hS4 (fun wS hS => runs_nilCheck rfl) ?_
    refine d_take 3 16 rfl (by kernel_rfl) rfl hS4 (fun wS hS => runs_fieldAddr Tryd.underlying77 rfl ty47 (by decide) rfl) ?_
    refine d_take 4 17 rfl (by kernel_rfl) rfl hS4 (fun wS hS => runs_load1 ty47 rfl ((hwb.keep hS hdo).cell (o := 0) rfl)) ?_
    refine d_take 5 18 rfl (by kernel_rfl) rfl hS4 (fun wS hS => runs_loadAgg ty24 rfl ((hb6.keep hS (fun hm => own_ne hown hb6 (by decide) (by simpa using hm))).at) (numC_len x)) ?_
    refine d_only 6 rfl (by kernel_rfl) ?_
    refine s_callf (xs := [.tmp 18]) rfl rfl Tryd.func36 rfl (by kernel_rfl) rfl (u128Bytes_calls x _ hxo) ?_
    rintro v6 w6 ⟨hown6, X4_6⟩
    replace hwb := hwb.keep X4_6 (by simp)
    replace hown := own_keep hown X4_6 (by simp)
    replace hbl := hbl.keep X4_6 (by simp)
    replace hX : Chg w _ (bw :: v0.ownBlock.toList) := (hX.trans X4_6).mono (by intro k hk hlt; simp at hk ⊢ <;> first | omega | grind)
    have zs4_6 := X4_6.size
    obtain ⟨a6, c6, rfl, hR6, _⟩ := own_bytes hown6
    have hownB := hown
    replace hS4 : Chg wd4 _ v.ownBlock.toList := (hS4.trans X4_6).mono (by intro k hk _; simpa using hk)
    refine s_nil ⟨.inr hS4, ?_⟩
    refine d_only 7 rfl (by kernel_rfl) ?_
    refine s_append Tryd.underlying47 ty5 rfl (by decide) rfl rfl rfl hown rfl hR6 (natsC_one _ _) (by simp only [maxLen, List.length_append, hnb]; omega) (by rw [List.length_append, hnb]; omega) (by omega) ?_
    intro v7 w7 H4_7 X4_7 F4_7
    replace hwb := hwb.keep X4_7 (fun hm => by have := (hown.lt _ (by simpa using hm)).1; omega)
    replace hbl := hbl.keep X4_7 (fun hm => own_ne hown hbl (by decide) (by simpa using hm))
    replace hX : Chg w _ (bw :: v0.ownBlock.toList) := (hX.trans X4_7).mono (by intro k hk hlt; simp only [List.mem_append, Option.mem_toList] at hk; rcases hk with hk | hk; exact hk; rcases hnew k hk with h1 | h1; simp [h1]; omega)
    have hown := H4_7
    have hnew7 : ∀ k, v7.ownBlock = some k → v0.ownBlock = some k ∨ w.heap.size ≤ k := fun k hk => (F4_7 k hk).elim (fun h => hnew k h) (fun h => .inr (by omega))
    have hzs7 := X4_7.size
    replace hS4 : Chg wd4 _ v.ownBlock.toList := (hS4.trans X4_7).mono (by intro k hk _; simpa using hk)
    refine s_nil ⟨.inr hS4, ?_⟩
    refine d_pure 8 21 rfl (by kernel_rfl) rfl (fun wS _ => runs_nilCheck rfl) ?_
    refine d_take 9 22 rfl (by kernel_rfl) rfl hS4 (fun wS hS => runs_fieldAddr Tryd.underlying77 rfl ty47 (by decide) rfl) ?_
    refine d_only 10 rfl (by kernel_rfl) ?_
    refine s_store1 ty47 rfl rfl rfl hwb (own_one hown) (by simp) ?_
    intro w10 z4_10 h4_10 X4_10
    replace hbl := hbl.keep X4_10 (fun hm => by simp at hm; subst hm; have := hbl.symm.trans hwb; simp at this)
    replace hX : Chg w _ (bw :: v0.ownBlock.toList) := (hX.trans X4_10).mono (by intro k hk hlt; simp only [List.mem_append, List.mem_singleton] at hk; rcases hk with hk | hk; exact hk; simp [hk])
    replace hown := own_keep hown X4_10 (fun k hk hm => by have := (hown.lt k hk).1; simp at hm; omega)
    replace hwb := h4_10
    refine s_nil ⟨.inl rfl, ?_⟩
    refine d_done (by kernel_rfl) ?_
    have hown' : w10.ownsRow (bw + 1) 5 1 v7 (bs ++ (l.take (i + 1)).flatMap Sp.numB).length (natsC .u8 (bs ++ (l.take (i + 1)).flatMap Sp.numB)) := by
      rw [List.take_add_one, hx]
      simpa [List.flatMap_append, natsC_append, numB_len, Nat.add_assoc] using hown
    refine hK6 _ _ ?_
    refine c_reg ?_
    refine s_val rfl rfl (runs_add64 rfl rfl (by omega)) ?_
    refine s_val rfl rfl (runs_move rfl) ?_
    refine s_nil ?_
    dsimp only [Post.setN]
    exact ⟨i + 1, ⟨rfl, rfl, rfl, rfl, trivial⟩, ⟨by omega, hbl, v7, ⟨⟨hwb, hown'⟩, hX, hnew7⟩⟩, by omega⟩
  · refine c_exit ?_
    refine hK2 _ _ ?_
    refine c_seqreg (fun K13 hK13 => ?_)
    refine s_val rfl rfl (runs_move rfl) ?_
    refine s_val rfl rfl (runs_assign rfl) ?_
    refine s_nil ?_
    refine hK13 _ _ ?_
    refine c_ret ?_
    refine hret _ _ ?_
    obtain rfl : i = m := by omega
    refine ends1 (reads_tmp rfl) ⟨rfl, v, ?_⟩
    rw [List.take_of_length_le (by omega)] at hown
    exact ⟨⟨hwb, hown⟩, hX, hnew⟩

set_option maxHeartbeats 2000000 in
theorem wrInt_calls (bw bl : Nat) (v0 : Value) (bs : List Nat) (n : Nat) (l : List Int) (m : Nat) (w : World) (hW : WrV w bw v0 bs) (hbl : Blk w bl (intsC .i64 l) 3) (hm : l.length = m) (hn8 : n ≤ 8) (hn : bs.length + m * 8 ≤ 1073741824) :
    CallsR Tryd.prog 32 #[.pointer (some ⟨bw, 0, none⟩), .int .i64 (n : Int), .slice (some ⟨bl, 0, none⟩) m m] w fun v w' => v = .pointer (some ⟨bw, 0, none⟩) ∧ ∃ v', WrP w w' bw v0 v' (bs ++ l.flatMap (Sp.intB n)) := by
  refine f_enter (l := [.pointer (some ⟨bw, 0, none⟩), .int .i64 (n : Int), .slice (some ⟨bl, 0, none⟩) m m]) Tryd.func32 rfl rfl rfl rfl ?_
  have hb0 := hW.blk.lt
  intro Qf hnrm hret
  refine c_seqreg (fun K1 hK1 => ?_)
  refine s_val rfl rfl (runs_assign rfl) ?_
  refine s_nil ?_
  refine hK1 _ _ ?_
  refine c_seq (fun K2 hK2 => ?_)
  refine c_seqreg (fun K3 hK3 => ?_)
  refine s_val rfl rfl (runs_move rfl) ?_
  refine s_val rfl rfl (runs_len_slice Tryd.underlying87 rfl) ?_
  refine s_val rfl rfl (runs_move rfl) ?_
  refine s_nil ?_
  refine hK3 _ _ ?_
  refine c_block ?_
  refine c_loop (σ := Nat) (fun i => [(12, .int .i64 (i : Int)), (11, .int .i64 (m : Int)), (10, .slice (some ⟨bl, 0, none⟩) m m), (1, .int .i64 (n : Int)), (0, .pointer (some ⟨bw, 0, none⟩))]) (fun i w' => i ≤ m ∧ Blk w' bl (intsC .i64 l) 3 ∧ ∃ v, WrP w w' bw v0 v (bs ++ (l.take i).flatMap (Sp.intB n))) (fun i => m - i) 0 ⟨rfl, rfl, rfl, rfl, rfl, trivial⟩ ⟨Nat.zero_le _, hbl, v0, by simpa using WrP.refl hW⟩ ?_
  rintro i wi ⟨hi, hbl, v, hWr⟩
  refine c_seqreg (fun K4 hK4 => ?_)
  refine s_val rfl rfl (runs_lt rfl rfl) ?_
  refine s_nil ?_
  refine hK4 _ _ ?_
  refine c_seq (fun K5 hK5 => ?_)
  refine c_dec rfl (fun hin => ?_) (fun hin => ?_)
  · obtain ⟨y, hy⟩ : ∃ x, l[i]? = some x := ⟨_, List.getElem?_eq_getElem (by omega)⟩
    have hyc : (intsC .i64 l)[i]? = some (.int .i64 y) := by simp [intsC, hy]
    refine c_skip ?_
    refine hK5 _ _ ?_
    refine c_seq (fun K6 hK6 => ?_)
    refine c_block ?_
    refine c_seqreg (fun K7 hK7 => ?_)
    refine s_val rfl rfl (runs_index_slice (i) Tryd.underlying87 ty3 rfl rfl (by omega) (by omega)) ?_
    refine s_val rfl rfl (runs_load1 ty3 rfl (hbl.c1 hyc)) ?_
    refine s_val rfl rfl (runs_assign rfl) ?_
    refine s_nil ?_
    refine hK7 _ _ ?_
    refine c_seqreg (fun K8 hK8 => ?_)
    refine s_val rfl rfl (runs_move rfl) ?_
    refine s_val rfl rfl (runs_as (v' := .int .i64 ((n : Int) - 1 - ((0 : Nat) : Int))) (runs_sub64 rfl rfl (by omega)) (congrArg (Value.int .i64) (by omega))) ?_
    refine s_val rfl rfl (runs_assign rfl) ?_
    refine s_nil ?_
    refine hK8 _ _ ?_
    refine c_block ?_
    refine c_loop (σ := Nat) (fun j => [(9, .int .i64 ((n : Int) - 1 - (j : Int))), (8, .int .i64 y), (12, .int .i64 (i : Int)), (11, .int .i64 (m : Int)), (10, .slice (some ⟨bl, 0, none⟩) m m), (1, .int .i64 (n : Int)), (0, .pointer (some ⟨bw, 0, none⟩))]) (fun j w' => j ≤ n ∧ Blk w' bl (intsC .i64 l) 3 ∧ ∃ v, WrP w w' bw v0 v (bs ++ (l.take i).flatMap (Sp.intB n) ++ (Sp.intB n y).take j)) (fun j => n - j) 0 ⟨rfl, rfl, rfl, rfl, rfl, rfl, rfl, trivial⟩ ⟨Nat.zero_le _, hbl, v, by simpa using hWr⟩ ?_
    clear hWr hbl v
    rintro j wj ⟨hj, hbl, v, ⟨⟨hwb, hown⟩, hX, hnew⟩⟩
    have hzX := hX.size
    have hbll := hbl.lt
    have hbwl := hwb.lt
    have hnb : (bs ++ (l.take i).flatMap (Sp.intB n) ++ (Sp.intB n y).take j).length ≤ bs.length + m * 8 := by
      rw [List.length_append, List.length_append, intsB_len, List.length_take, List.length_take, intB_len]
      have h1 : min i l.length * n ≤ i * 8 := Nat.mul_le_mul (by omega) hn8
      have h2 : i * 8 + 8 ≤ m * 8 := by omega
      omega
    refine c_seq (fun K9 hK9 => ?_)
    refine c_seqreg (fun K10 hK10 => ?_)
    refine s_val rfl rfl (runs_move rfl) ?_
    refine s_val rfl rfl (runs_ge rfl rfl) ?_
    refine s_nil ?_
    refine hK10 _ _ ?_
    refine c_dec rfl (fun hge => ?_) (fun hge => ?_)
    · refine c_skip ?_
      refine hK9 _ _ ?_
      refine c_seq (fun K11 hK11 => ?_)
      refine c_block ?_
      refine c_drawX [14] (v.ownBlock.toList) (by kernel_rfl) ?_
      intro wd7 Xd7 hS7
      replace hwb := hwb.keep Xd7 (by simp)
      replace hown := own_keep hown Xd7 (by simp)
      replace hbl := hbl.keep Xd7 (by simp)
      replace hX : Chg w _ (bw :: v0.ownBlock.toList) := (hX.trans Xd7).mono (by intro k hk hlt; simp at hk ⊢ <;> first | omega | grind)
      have zd7 := Xd7.size
      have hbw1 := hwb.lt
      have hdo : bw ∉ v.ownBlock.toList := fun hm => by have := (hown.lt _ (by simpa using hm)).1; omega
      refine d_take 0 22 rfl (by kernel_rfl) rfl hS7 (fun wS hS => runs_move rfl) ?_
      refine d_take 1 23 rfl (by kernel_rfl) rfl hS7 (fun wS hS => runs_move rfl) ?_
      refine d_take 2 24 rfl (by kernel_rfl) rfl hS7 (fun wS hS => runs_nilCheck rfl) ?_
      refine d_take 3 25 rfl (by kernel_rfl) rfl hS7 (fun wS hS => runs_fieldAddr Tryd.underlying77 rfl ty47 (by decide) rfl) ?_
      refine d_take 4 26 rfl (by kernel_rfl) rfl hS7 (fun wS hS => runs_load1 ty47 rfl ((hwb.keep hS hdo).cell (o := 0) rfl)) ?_
      refine d_take 5 27 rfl (by kernel_rfl) rfl hS7 (fun wS hS => runs_move rfl) ?_
      refine d_take 6 28 rfl (by kernel_rfl) rfl hS7 (fun wS hS => runs_move rfl) ?_
      refine d_take 7 29 rfl (by kernel_rfl) rfl hS7 (fun wS hS => runs_as (v' := .int .i64 ((8 * (n - 1 - j) : Nat) : Int)) (runs_mul64 rfl rfl (by omega)) (congrArg (Value.int .i64) (by omega))) ?_
      refine d_take 8 30 rfl (by kernel_rfl) rfl hS7 (fun wS hS => runs_shr rfl rfl (by omega)) ?_
      refine d_take 9 31 rfl (by kernel_rfl) rfl hS7 (fun wS hS => runs_as (v' := .int .u8 (((y / 2 ^ (8 * (n - 1 - j)) % 256).toNat : Nat) : Int)) (runs_conv Tryd.underlying3 Tryd.underlying5 rfl) (congrArg (Value.int .u8) (shr_byteI y _ (by omega)))) ?_
      refine d_only 10 rfl (by kernel_rfl) ?_
      refine s_lit (xs := [.tmp 31]) Tryd.underlying47 ty5 rfl rfl rfl rfl rfl (by simp [Value.cells]) (by decide) (by decide) ?_
      intro b10 w710 e7_10 z7_10 hb10 X7_10
      have s7_10_hwb := hwb.lt
      have s7_10_hbl := hbl.lt
      have s7_10_hX := hX.size
      replace hwb := hwb.keep X7_10 (by simp)
      replace hown := own_keep hown X7_10 (by simp)
      replace hbl := hbl.keep X7_10 (by simp)
      replace hX : Chg w _ (bw :: v0.ownBlock.toList) := (hX.trans X7_10).mono (by intro k hk hlt; simp at hk ⊢ <;> first | omega | grind)
      have hownB := hown
      have hb10B := hb10
      replace hS7 : Chg wd7 _ v.ownBlock.toList := (hS7.trans X7_10).mono (by intro k hk _; simpa using hk)
      refine s_nil ⟨.inr hS7, ?_⟩
      refine d_only 11 rfl (by kernel_rfl) ?_
      refine s_append Tryd.underlying47 ty5 rfl (by decide) rfl rfl rfl hown rfl (lit_reads (m := 1) (size := 1) (cs := natsC .u8 [(y / 2 ^ (8 * (n - 1 - j)) % 256).toNat]) hb10 rfl (by decide)) (natsC_one _ _) (by simp only [maxLen]; omega) (by omega) (by omega) ?_
      intro v7 w7 H7_11 X7_11 F7_11
      replace hwb := hwb.keep X7_11 (fun hm => by have := (hown.lt _ (by simpa using hm)).1; omega)
      replace hbl := hbl.keep X7_11 (fun hm => own_ne hown hbl (by decide) (by simpa using hm))
      replace hX : Chg w _ (bw :: v0.ownBlock.toList) := (hX.trans X7_11).mono (by intro k hk hlt; simp only [List.mem_append, Option.mem_toList] at hk; rcases hk with hk | hk; exact hk; rcases hnew k hk with h1 | h1; simp [h1]; omega)
      have hown := H7_11
      have hnew7 : ∀ k, v7.ownBlock = some k → v0.ownBlock = some k ∨ w.heap.size ≤ k := fun k hk => (F7_11 k hk).elim (fun h => hnew k h) (fun h => .inr (by omega))
      have hzs7 := X7_11.size
      replace hS7 : Chg wd7 _ v.ownBlock.toList := (hS7.trans X7_11).mono (by intro k hk _; simpa using hk)
      refine s_nil ⟨.inr hS7, ?_⟩
      refine d_pure 12 34 rfl (by kernel_rfl) rfl (fun wS _ => runs_nilCheck rfl) ?_
      refine d_take 13 35 rfl (by kernel_rfl) rfl hS7 (fun wS hS => runs_fieldAddr Tryd.underlying77 rfl ty47 (by decide) rfl) ?_
      refine d_only 14 rfl (by kernel_rfl) ?_
      refine s_store1 ty47 rfl rfl rfl hwb (own_one hown) (by simp) ?_
      intro w10 z7_14 h7_14 X7_14
      replace hbl := hbl.keep X7_14 (fun hm => by simp at hm; subst hm; have := hbl.symm.trans hwb; simp at this)
      replace hX : Chg w _ (bw :: v0.ownBlock.toList) := (hX.trans X7_14).mono (by intro k hk hlt; simp only [List.mem_append, List.mem_singleton] at hk; rcases hk with hk | hk; exact hk; simp [hk])
      replace hown := own_keep hown X7_14 (fun k hk hm => by have := (hown.lt k hk).1; simp at hm; omega)
      replace hwb := h7_14
      refine s_nil ⟨.inl rfl, ?_⟩
      refine d_done (by kernel_rfl) ?_
      have hown' : w10.ownsRow (bw + 1) 5 1 v7 (bs ++ (l.take i).flatMap (Sp.intB n) ++ (Sp.intB n y).take (j + 1)).length (natsC .u8 (bs ++ (l.take i).flatMap (Sp.intB n) ++ (Sp.intB n y).take (j + 1))) := by
        rw [List.take_add_one, intB_get n y (by omega), ← List.append_assoc, natsC_append, List.length_append]
        exact hown
      refine hK11 _ _ ?_
      refine c_reg ?_
      refine s_val rfl rfl (runs_move rfl) ?_
      refine s_val rfl rfl (runs_as (v' := .int .i64 ((n : Int) - 1 - ((j + 1 : Nat) : Int))) (runs_sub64 rfl rfl (by omega)) (congrArg (Value.int .i64) (by omega))) ?_
      refine s_val rfl rfl (runs_assign rfl) ?_
      refine s_nil ?_
      dsimp only [Post.setN]
      exact ⟨j + 1, ⟨rfl, rfl, rfl, rfl, rfl, rfl, rfl, trivial⟩, ⟨by omega, hbl, v7, ⟨⟨hwb, hown'⟩, hX, hnew7⟩⟩, by omega⟩
    · refine c_exit ?_
      refine hK6 _ _ ?_
      refine c_reg ?_
      refine s_val rfl rfl (runs_add64 rfl rfl (by omega)) ?_
      refine s_val rfl rfl (runs_move rfl) ?_
      refine s_nil ?_
      dsimp only [Post.setN]
      have hjn : j = n := by omega
      have hfull : (Sp.intB n y).take n = Sp.intB n y := List.take_of_length_le (by rw [intB_len]; omega)
      rw [hjn, hfull] at hown
      have hfm : (l.take (i + 1)).flatMap (Sp.intB n) = (l.take i).flatMap (Sp.intB n) ++ Sp.intB n y := by rw [List.take_add_one, hy]; simp [List.flatMap_append]
      exact ⟨i + 1, ⟨rfl, rfl, rfl, rfl, rfl, trivial⟩, ⟨by omega, hbl, v, ⟨⟨hwb, by rw [hfm, ← List.append_assoc]; exact hown⟩, hX, hnew⟩⟩, by omega⟩
  · refine c_exit ?_
    refine hK2 _ _ ?_
    refine c_seqreg (fun K15 hK15 => ?_)
    refine s_val rfl rfl (runs_move rfl) ?_
    refine s_val rfl rfl (runs_assign rfl) ?_
    refine s_nil ?_
    refine hK15 _ _ ?_
    refine c_ret ?_
    refine hret _ _ ?_
    obtain rfl : i = m := by omega
    refine ends1 (reads_tmp rfl) ⟨rfl, v, ?_⟩
    rw [List.take_of_length_le (by omega)] at hWr
    exact hWr

theorem wrBytes_calls (bw : Nat) (v0 : Value) (bs : List Nat) (w : World) (hW : WrV w bw v0 bs) (hn : bs.length ≤ 1073741824) :
    CallsR Tryd.prog 34 #[.pointer (some ⟨bw, 0, none⟩)] w fun v w' => w'.ownsRow w.heap.size 5 1 v bs.length (natsC .u8 bs) ∧ Chg w w' [] := by
  refine f_enter (l := [.pointer (some ⟨bw, 0, none⟩)]) Tryd.func34 rfl rfl rfl rfl ?_
  obtain ⟨a0, c0, hv0, hR0, _⟩ := own_bytes hW.own
  rw [hv0] at hW
  intro Qf hnrm hret
  refine c_seqreg (fun K1 hK1 => ?_)
  refine s_val rfl rfl (runs_assign rfl) ?_
  refine s_nil ?_
  refine hK1 _ _ ?_
  refine c_seqreg (fun K2 hK2 => ?_)
  refine s_val rfl rfl (runs_move rfl) ?_
  refine s_val rfl rfl (runs_nilCheck rfl) ?_
  refine s_val rfl rfl (runs_fieldAddr Tryd.underlying77 rfl ty47 (by decide) rfl) ?_
  refine s_val rfl rfl (runs_load1 ty47 rfl (hW.blk.cell (o := 0) rfl)) ?_
  refine s_append Tryd.underlying47 ty5 rfl (by decide) rfl rfl rfl (World.ownsRow_nil _ w.heap.size _ _) rfl hR0 (natsC_one _ _) (by simp only [maxLen]; omega) (by omega) (Nat.le_refl _) ?_
  intro v4 w4 H1_4 X1_4 F1_4
  replace X1_4 : Chg _ _ [] := X1_4
  refine s_val rfl rfl (runs_assign rfl) ?_
  refine s_nil ?_
  refine hK2 _ _ ?_
  refine c_ret ?_
  refine hret _ _ ?_
  exact ends1 (reads_tmp rfl) ⟨by simpa using H1_4, X1_4⟩
end Go.Proofs.YtmmijecookbajaaDoor
