/- Part Wire2 of the proofs on this seat. Conditions: none beyond those in the theorems. By an AI agent. -/
import Derived.Test.YtmmijecookbajaaDoorWire1
namespace Go.Proofs.YtmmijecookbajaaDoor
open Go Go.RowKit

theorem hs_lit' {w : World} {b m : Nat} {l : List (List Nat)} {t : TypeId} (h : Blk w b (natsC .u8 l.flatten) t) (ok : ∀ x ∈ l, HOk x) (hl : l.length = m) (hm : m ≤ 1000) : HsR w (some ⟨b, 0, none⟩) m m l :=
  hs_lit l (by rw [flat_hv]; exact h) ok hl (by simp only [maxLen]; omega)
set_option maxHeartbeats 2000000 in
theorem wrHash_calls (bw bl : Nat) (v0 : Value) (bs : List Nat) (l : List (List Nat)) (m : Nat) (w : World) (hW : WrV w bw v0 bs) (hbl0 : Blk w bl (flatC (l.map hv)) 26) (hm : l.length = m) (hok : ∀ x ∈ l, HOk x) (hn : bs.length + m * 32 ≤ 1073741824) (hm1 : m ≤ 1000) :
    CallsR Tryd.prog 33 #[.pointer (some ⟨bw, 0, none⟩), .slice (some ⟨bl, 0, none⟩) m m] w fun v w' => v = .pointer (some ⟨bw, 0, none⟩) ∧ ∃ v', WrP w w' bw v0 v' (bs ++ l.flatten) := by
  have hbl : Blk w bl (natsC .u8 l.flatten) 26 := by rw [← flat_hv]; exact hbl0
  refine f_enter (l := [.pointer (some ⟨bw, 0, none⟩), .slice (some ⟨bl, 0, none⟩) m m]) Tryd.func33 rfl rfl rfl rfl ?_
  have hb0 := hW.blk.lt
  intro Qf hnrm hret
  refine c_seqreg (fun K1 hK1 => ?_)
  refine s_val rfl rfl (runs_assign rfl) ?_
  refine s_nil ?_
  refine hK1 _ _ ?_
  refine c_seq (fun K2 hK2 => ?_)
  refine c_seqreg (fun K3 hK3 => ?_)
  refine s_val rfl rfl (runs_move rfl) ?_
  refine s_val rfl rfl (runs_len_slice Tryd.underlying31 rfl) ?_
  refine s_val rfl rfl (runs_move rfl) ?_
  refine s_nil ?_
  refine hK3 _ _ ?_
  refine c_block ?_
  refine c_loop (σ := Nat) (fun i => [(9, .int .i64 (i : Int)), (8, .int .i64 (m : Int)), (7, .slice (some ⟨bl, 0, none⟩) m m), (0, .pointer (some ⟨bw, 0, none⟩))]) (fun i w' => i ≤ m ∧ Blk w' bl (natsC .u8 l.flatten) 26 ∧ ∃ v, WrP w w' bw v0 v (bs ++ (l.take i).flatten)) (fun i => m - i) 0 ⟨rfl, rfl, rfl, rfl, trivial⟩ ⟨Nat.zero_le _, hbl, v0, by simpa using WrP.refl hW⟩ ?_
  rintro i wi ⟨hi, hbl, v, ⟨⟨hwb, hown⟩, hX, hnew⟩⟩
  have hzX := hX.size
  have hbll := hbl.lt
  have hbwl := hwb.lt
  have hnb : (l.take i).flatten.length = i * 32 := by
    rw [flat32 (fun x hx => hok x (List.mem_of_mem_take hx)), List.length_take]; congr 1; omega
  refine c_seqreg (fun K4 hK4 => ?_)
  refine s_val rfl rfl (runs_lt rfl rfl) ?_
  refine s_nil ?_
  refine hK4 _ _ ?_
  refine c_seq (fun K5 hK5 => ?_)
  refine c_dec rfl (fun hin => ?_) (fun hin => ?_)
  · obtain ⟨x, hx⟩ : ∃ x, l[i]? = some x := ⟨_, List.getElem?_eq_getElem (by omega)⟩
    have hxo := hok x (List.mem_of_getElem? hx)
    have hat := (hs_lit' hbl hok hm hm1).elem hx
    refine c_skip ?_
    refine hK5 _ _ ?_
    refine c_seq (fun K6 hK6 => ?_)
    refine c_block ?_
    refine c_seqreg (fun K7 hK7 => ?_)
    refine s_val rfl rfl (runs_index_slice (i) Tryd.underlying31 ty26 rfl rfl (by omega) (by omega)) ?_
    refine s_val rfl rfl (runs_loadAgg ty26 rfl hat (by rw [natsC_length, hxo.1])) ?_
    refine s_alloc ty26 rfl rfl ?_
    intro b6 w32 e3_2 z3_2 hb6 X3_2
    have s3_2_hwb := hwb.lt
    have s3_2_hbl := hbl.lt
    have s3_2_hX := hX.size
    replace hwb := hwb.keep X3_2 (by simp)
    replace hown := own_keep hown X3_2 (by simp)
    replace hbl := hbl.keep X3_2 (by simp)
    replace hX : Chg w _ (bw :: v0.ownBlock.toList) := (hX.trans X3_2).mono (by intro k hk hlt; simp at hk ⊢ <;> first | omega | grind)
    refine s_storeAll ty26 rfl rfl rfl hb6 (by rw [natsC_length, hxo.1]) rfl (natsC_one _ _) ?_
    intro w33 z3_3 h3_3 X3_3
    replace hwb := hwb.keep X3_3 (by simp; omega)
    replace hown := own_keep hown X3_3 (fun k hk hm => own_ne hown hb6 (by decide) (by simp at hm; rw [← hm]; exact hk))
    replace hbl := hbl.keep X3_3 (by simp; omega)
    replace hX : Chg w _ (bw :: v0.ownBlock.toList) := (hX.trans X3_3).mono (by intro k hk hlt; simp only [List.mem_append, List.mem_singleton] at hk; rcases hk with hk | hk; exact hk; omega)
    replace hb6 := h3_3
    refine s_nil ?_
    have hzX3 := hX.size
    have hlb6 := hb6.lt
    refine hK7 _ _ ?_
    refine c_drawX [9] (v.ownBlock.toList) (by kernel_rfl) ?_
    intro wd4 Xd4 hS4
    replace hwb := hwb.keep Xd4 (by simp)
    replace hown := own_keep hown Xd4 (by simp)
    replace hbl := hbl.keep Xd4 (by simp)
    replace hX : Chg w _ (bw :: v0.ownBlock.toList) := (hX.trans Xd4).mono (by intro k hk hlt; simp at hk ⊢ <;> first | omega | grind)
    replace hb6 := hb6.keep Xd4 (by simp)
    have zd4 := Xd4.size
    have hbw1 := hwb.lt
    have hdo : bw ∉ v.ownBlock.toList := fun hm => by have := (hown.lt _ (by simpa using hm)).1; omega
    refine d_take 0 13 rfl (by kernel_rfl) rfl hS4 (fun wS hS => runs_move rfl) ?_
    refine d_take 1 14 rfl (by kernel_rfl) rfl hS4 (fun wS hS => runs_move rfl) ?_
    refine d_take 2 15 rfl (by kernel_rfl) rfl hS4 (fun wS hS => runs_nilCheck rfl) ?_
    refine d_take 3 16 rfl (by kernel_rfl) rfl hS4 (fun wS hS => runs_fieldAddr Tryd.underlying77 rfl ty47 (by decide) rfl) ?_
    refine d_take 4 17 rfl (by kernel_rfl) rfl hS4 (fun wS hS => runs_load1 ty47 rfl ((hwb.keep hS hdo).cell (o := 0) rfl)) ?_
    refine d_take 5 18 rfl (by kernel_rfl) rfl hS4 (fun wS hS => runs_slice_arr Tryd.underlying26 ty5 rfl) ?_
    refine d_only 6 rfl (by kernel_rfl) ?_
    refine s_append Tryd.underlying47 ty5 rfl (by decide) rfl rfl rfl hown rfl (lit_reads hb6 (by rw [natsC_length, hxo.1]) (by decide)) (natsC_one _ _) (by simp only [maxLen, List.length_append, hnb]; omega) (by rw [List.length_append, hnb]; omega) (by omega) ?_
    intro v7 w7 H4_6 X4_6 F4_6
    replace hwb := hwb.keep X4_6 (fun hm => by have := (hown.lt _ (by simpa using hm)).1; omega)
    replace hbl := hbl.keep X4_6 (fun hm => own_ne hown hbl (by decide) (by simpa using hm))
    replace hX : Chg w _ (bw :: v0.ownBlock.toList) := (hX.trans X4_6).mono (by intro k hk hlt; simp only [List.mem_append, Option.mem_toList] at hk; rcases hk with hk | hk; exact hk; rcases hnew k hk with h1 | h1; simp [h1]; omega)
    have hown := H4_6
    have hnew7 : ∀ k, v7.ownBlock = some k → v0.ownBlock = some k ∨ w.heap.size ≤ k := fun k hk => (F4_6 k hk).elim (fun h => hnew k h) (fun h => .inr (by omega))
    have hzs7 := X4_6.size
    replace hS4 : Chg wd4 _ v.ownBlock.toList := (hS4.trans X4_6).mono (by intro k hk _; simpa using hk)
    refine s_nil ⟨.inr hS4, ?_⟩
    refine d_pure 7 20 rfl (by kernel_rfl) rfl (fun wS _ => runs_nilCheck rfl) ?_
    refine d_take 8 21 rfl (by kernel_rfl) rfl hS4 (fun wS hS => runs_fieldAddr Tryd.underlying77 rfl ty47 (by decide) rfl) ?_
    refine d_only 9 rfl (by kernel_rfl) ?_
    refine s_store1 ty47 rfl rfl rfl hwb (own_one hown) (by simp) ?_
    intro w10 z4_9 h4_9 X4_9
    replace hbl := hbl.keep X4_9 (fun hm => by simp at hm; subst hm; have := hbl.symm.trans hwb; simp at this)
    replace hX : Chg w _ (bw :: v0.ownBlock.toList) := (hX.trans X4_9).mono (by intro k hk hlt; simp only [List.mem_append, List.mem_singleton] at hk; rcases hk with hk | hk; exact hk; simp [hk])
    replace hown := own_keep hown X4_9 (fun k hk hm => by have := (hown.lt k hk).1; simp at hm; omega)
    replace hwb := h4_9
    refine s_nil ⟨.inl rfl, ?_⟩
    refine d_done (by kernel_rfl) ?_
    have hown' : w10.ownsRow (bw + 1) 5 1 v7 (bs ++ (l.take (i + 1)).flatten).length (natsC .u8 (bs ++ (l.take (i + 1)).flatten)) := by
      rw [List.take_add_one, hx]
      simpa [List.flatten_append, natsC_append, hxo.1, Nat.add_assoc] using hown
    refine hK6 _ _ ?_
    refine c_reg ?_
    refine s_val rfl rfl (runs_add64 rfl rfl (by omega)) ?_
    refine s_val rfl rfl (runs_move rfl) ?_
    refine s_nil ?_
    dsimp only [Post.setN]
    exact ⟨i + 1, ⟨rfl, rfl, rfl, rfl, trivial⟩, ⟨by omega, hbl, v7, ⟨⟨hwb, hown'⟩, hX, hnew7⟩⟩, by omega⟩
  · refine c_exit ?_
    refine hK2 _ _ ?_
    refine c_seqreg (fun K12 hK12 => ?_)
    refine s_val rfl rfl (runs_move rfl) ?_
    refine s_val rfl rfl (runs_assign rfl) ?_
    refine s_nil ?_
    refine hK12 _ _ ?_
    refine c_ret ?_
    refine hret _ _ ?_
    obtain rfl : i = m := by omega
    refine ends1 (reads_tmp rfl) ⟨rfl, v, ?_⟩
    rw [List.take_of_length_le (by omega)] at hown
    exact ⟨⟨hwb, hown⟩, hX, hnew⟩
end Go.Proofs.YtmmijecookbajaaDoor
