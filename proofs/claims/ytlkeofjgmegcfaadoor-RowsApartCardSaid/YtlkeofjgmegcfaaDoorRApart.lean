/- Part RApart of the proofs on this seat. Conditions: none beyond those in the theorems. By an AI agent. -/
import Derived.Test.YtlkeofjgmegcfaaDoorRLeaves
namespace Go.Proofs.YtlkeofjgmegcfaaDoor
open Go Go.RowKit

theorem rem_nat {a b : Nat} : ((a : Int) % (b : Int)) = ((a % b : Nat) : Int) := by simp
theorem xor1_lt {a : Nat} (h : a < 18446744073709551616) : a ^^^ 1 < 18446744073709551616 := Nat.xor_lt_two_pow (n := 64) h (by decide)
theorem xor1_ne (a : Nat) : a ^^^ 1 ≠ a := fun h => by
  have := congrArg (a ^^^ ·) h
  simp [← Nat.xor_assoc] at this
theorem runs_xor1 {P : Program} {ρ : Env} {w : World} {x : Operand} {tx ty tyy : TypeId} {a : Nat} (hx : ev? ρ x = some (.int .u64 (a : Int))) (ha : a < 18446744073709551616) :
    Runs P ρ (.binOp .xor tx x (.const (.int .u64 1)) tyy) ty w (.int .u64 ((a ^^^ 1 : Nat) : Int)) w :=
  runs_as (runs_xor hx rfl) (by
    have h1 := xor1_lt ha
    show Value.int .u64 (IntKind.u64.wrap ((BitVec.ofInt 64 (a : Int) ^^^ BitVec.ofInt 64 1).toNat : Int)) = _
    have e1 : (BitVec.ofInt 64 (a : Int)).toNat = a := by rw [BitVec.toNat_ofInt]; omega
    have e2 : (BitVec.ofInt 64 (1 : Int)).toNat = 1 := by decide
    rw [BitVec.toNat_xor, e1, e2]
    rw [wrap_u64 (by omega) (by omega)])
/-- A row, altered. -/
def Sp.tw (e : Int) (r : Rw) : Rw := { r with am := (r.am.1, r.am.2 ^^^ 1), event := (land64 e 255 : Int) }
theorem tw_ok {e : Int} {r : Rw} (h : r.Ok) : (Sp.tw e r).Ok := by
  have := land64_le (a := e) (m := 255) (by decide)
  exact ⟨⟨h.num.tr, ⟨h.num.am.1, xor1_lt h.num.am.2⟩, h.num.dp, h.num.dq, h.num.cp, h.num.cq⟩, h.time, by simp only [Sp.tw]; omega⟩
theorem tw_ne (e : Int) (r : Rw) : r ≠ Sp.tw e r := fun h => by
  have h1 : r.am = (Sp.tw e r).am := congrArg Rw.am h
  have h2 : r.am.2 = r.am.2 ^^^ 1 := congrArg Prod.snd h1
  exact xor1_ne _ h2.symm
theorem apart_law {rs : List Rw} {k : Nat} {r : Rw} {e : Int} {L : List (List Nat)} (hr : rs[k]? = some r) (ok : ∀ r ∈ rs, r.Ok) (he : Sp.root (Sp.leaves rs) = Sp.root (Sp.leaves (rs.set k (Sp.tw e r))))
    (hL : ∀ z, z ∈ rs.map (fun r => 0 :: Sp.rowB r) ∨ z ∈ Sp.notes (Sp.leaves rs) ∨ z ∈ (rs.set k (Sp.tw e r)).map (fun r => 0 :: Sp.rowB r) ∨ z ∈ Sp.notes (Sp.leaves (rs.set k (Sp.tw e r))) → z ∈ L) : Sp.Clash L := by
  have hk : k < rs.length := (List.getElem?_eq_some_iff.1 hr).1
  by_cases h : Sp.leaves rs = Sp.leaves (rs.set k (Sp.tw e r))
  · have h1 : (Sp.leaves rs)[k]? = (Sp.leaves (rs.set k (Sp.tw e r)))[k]? := by rw [h]
    simp only [Sp.leaves, List.getElem?_map, hr, List.getElem?_set_self hk, Option.map_some, Option.some.injEq] at h1
    refine rleaf_coll (ok r (List.mem_of_getElem? hr)) (tw_ok (e := e) (ok r (List.mem_of_getElem? hr))) (tw_ne e r) h1 (hL _ (.inl (List.mem_map.2 ⟨r, List.mem_of_getElem? hr, rfl⟩))) (hL _ (.inr (.inr (.inl (List.mem_map.2 ⟨_, ?_, rfl⟩)))))
    exact List.mem_of_getElem? (List.getElem?_set_self hk)
  · refine (root_coll _ _ _ (Nat.le_refl _) (by simp [Sp.leaves]) (leavesR_ok _) (leavesR_ok _) he h).mono fun z hz => hL z ?_
    rcases List.mem_append.1 hz with hz | hz
    · exact .inr (.inl hz)
    · exact .inr (.inr (.inr hz))
set_option maxHeartbeats 1000000 in
theorem apart_calls (B : Nat) (ls : List Rw) (a : Option Addr) (n c : Nat) (kk : Int) (x : Rw) (w : World) (hG0 : GH B w) (hBw : B ≤ w.heap.size) (hR : RowsR w a n c ls) (hx : x.Num) :
    CallsR Tryd.prog 7 #[.slice a n c, .int .i64 kk, rv x] w fun v w' => v = .bool true ∧ Chg w w' [] := by
  have hX : Chg w w [] := Chg.refl _ _
  have hG := hG0
  have hlen := hR.len
  refine f_enter (l := [.slice a n c, .int .i64 kk, rv x]) Tryd.func7 rfl rfl rfl rfl ?_
  intro Qf hnrm hret
  refine c_seqreg (fun K1 hK1 => ?_)
  refine s_box rfl rfl rfl ?_
  intro b5 w00 e0_0 z0_0 hb5 X0_0
  have s0_0_hX := hX.size
  replace hG := hG.keep X0_0 (by simp)
  replace hX : Chg w _ [] := (hX.trans X0_0).mono (by intro k hk hlt; simp at hk ⊢ <;> first | omega | grind)
  replace hb5 : Blk w00 b5 (x.C) 34 := hb5
  refine s_val rfl rfl (runs_assign rfl) ?_
  refine s_nil ?_
  have hl5 := hb5.lt
  refine hK1 _ _ ?_
  refine c_seq (fun K3 hK3 => ?_)
  refine c_seqreg (fun K4 hK4 => ?_)
  refine s_callf (xs := []) rfl rfl Tryd.func9 rfl (by kernel_rfl) rfl (fitR_calls B _ hG (by omega)) ?_
  rintro _ w1 ⟨rfl, X1_0, hG'⟩
  replace hG := hG.keep X1_0 (by simp)
  replace hX : Chg w _ [] := (hX.trans X1_0).mono (by intro k hk hlt; simp at hk ⊢ <;> first | omega | grind)
  replace hb5 := hb5.keep X1_0 (by simp)
  have zs1_0 := X1_0.size
  refine s_val rfl rfl (runs_not rfl) ?_
  refine s_nil ?_
  refine hK4 _ _ ?_
  refine c_false rfl ?_
  refine c_skip ?_
  refine hK3 _ _ ?_
  refine c_seq (fun K6 hK6 => ?_)
  rcases (show n = 0 ∨ (n ≠ 0 ∧ 30 < n) ∨ (n ≠ 0 ∧ ¬ 30 < n) by omega) with h0 | ⟨h0, h30⟩ | ⟨h0, h30⟩
  · refine c_seqreg (fun K7 hK7 => ?_)
    refine s_val rfl rfl (runs_move rfl) ?_
    refine s_val rfl rfl (runs_len_slice Tryd.underlying22 rfl) ?_
    refine s_val rfl rfl (runs_dt (runs_eqd rfl rfl) (by omega)) ?_
    refine s_val rfl rfl (runs_move rfl) ?_
    refine s_skip rfl rfl ?_
    refine s_skip rfl rfl ?_
    refine s_skip rfl rfl ?_
    refine s_val rfl rfl (runs_pickt rfl rfl) ?_
    refine s_nil ?_
    refine hK7 _ _ ?_
    refine c_true rfl ?_
    refine c_seqreg (fun K8 hK8 => ?_)
    refine s_val rfl rfl (runs_assign rfl) ?_
    refine s_nil ?_
    refine hK8 _ _ ?_
    refine c_ret ?_
    refine hret _ _ ?_
    exact ends1 (reads_tmp rfl) ⟨rfl, hX⟩
  · refine c_seqreg (fun K7 hK7 => ?_)
    refine s_val rfl rfl (runs_move rfl) ?_
    refine s_val rfl rfl (runs_len_slice Tryd.underlying22 rfl) ?_
    refine s_val rfl rfl (runs_df (runs_eqd rfl rfl) (by omega)) ?_
    refine s_val rfl rfl (runs_move rfl) ?_
    refine s_val rfl rfl (runs_move rfl) ?_
    refine s_val rfl rfl (runs_len_slice Tryd.underlying22 rfl) ?_
    refine s_val rfl rfl (runs_dt (runs_gt rfl rfl) (by omega)) ?_
    refine s_val rfl rfl (runs_pickf rfl rfl) ?_
    refine s_nil ?_
    refine hK7 _ _ ?_
    refine c_true rfl ?_
    refine c_seqreg (fun K9 hK9 => ?_)
    refine s_val rfl rfl (runs_assign rfl) ?_
    refine s_nil ?_
    refine hK9 _ _ ?_
    refine c_ret ?_
    refine hret _ _ ?_
    exact ends1 (reads_tmp rfl) ⟨rfl, hX⟩
  · refine c_seqreg (fun K7 hK7 => ?_)
    refine s_val rfl rfl (runs_move rfl) ?_
    refine s_val rfl rfl (runs_len_slice Tryd.underlying22 rfl) ?_
    refine s_val rfl rfl (runs_df (runs_eqd rfl rfl) (by omega)) ?_
    refine s_val rfl rfl (runs_move rfl) ?_
    refine s_val rfl rfl (runs_move rfl) ?_
    refine s_val rfl rfl (runs_len_slice Tryd.underlying22 rfl) ?_
    refine s_val rfl rfl (runs_df (runs_gt rfl rfl) (by omega)) ?_
    refine s_val rfl rfl (runs_pickf rfl rfl) ?_
    refine s_nil ?_
    refine hK7 _ _ ?_
    refine c_false rfl ?_
    refine c_skip ?_
    refine hK6 _ _ ?_
    refine c_seqreg (fun K10 hK10 => ?_)
    refine s_val rfl rfl (runs_move rfl) ?_
    refine s_callf (xs := [.tmp 22]) rfl rfl Tryd.func10 rfl (by kernel_rfl) rfl (list_calls B ls _ _ _ _ hG (by omega) (hR.grow hX) (by omega)) ?_
    rintro _ w5 ⟨bx, v1, v2, rfl, hL, X5_1, hG5⟩
    replace hG := hG.keep X5_1 (by simp)
    replace hX : Chg w _ [] := (hX.trans X5_1).mono (by intro k hk hlt; simp at hk ⊢ <;> first | omega | grind)
    replace hb5 := hb5.keep X5_1 (by simp)
    have zs5_1 := X5_1.size
    have hlsl : (Sp.mkR ls).length = n := by rw [mkR_len, hlen]
    obtain ⟨rs, hrs⟩ : ∃ rs, rs = Sp.mkR ls := ⟨_, rfl⟩
    rw [← hrs] at hL hlsl
    obtain ⟨hxh, hhx⟩ : ∃ k, k = w5.heap.size := ⟨_, rfl⟩
    rw [← hhx] at hL
    have rsok := hL.ok
    refine s_val rfl rfl (runs_buildv (v := .agg #[.slice none 0 0, .slice none 0 0]) [] rfl (by kernel_rfl)) ?_
    refine s_box rfl rfl rfl ?_
    intro by_ w53 e5_3 z5_3 hby X5_3
    have s5_3_hX := hX.size
    have s5_3_hb5 := hb5.lt
    replace hG := hG.keep X5_3 (by simp)
    replace hX : Chg w _ [] := (hX.trans X5_3).mono (by intro k hk hlt; simp at hk ⊢ <;> first | omega | grind)
    replace hb5 := hb5.keep X5_3 (by simp)
    replace hL := hL.keep X5_3 (by simp)
    have hly := hby.lt
    have hM := ls_new (lo := by_) hby (Nat.le_refl _)
    refine s_val rfl rfl (runs_assign rfl) ?_
    refine s_val rfl rfl (runs_assign rfl) ?_
    refine s_nil ?_
    have hzX5 := hX.size
    obtain ⟨k, hk⟩ : ∃ k, k = land64 kk 1023 % n := ⟨_, rfl⟩
    have hkn : k < n := by rw [hk]; exact Nat.mod_lt _ (by omega)
    obtain ⟨rk, hrk⟩ : ∃ r, rs[k]? = some r := ⟨_, List.getElem?_eq_getElem (by omega)⟩
    obtain ⟨ys, hys⟩ : ∃ ys, ys = rs.set k (Sp.tw x.event rk) := ⟨_, rfl⟩
    have hysl : ys.length = n := by rw [hys, List.length_set, hlsl]
    have ysok : ∀ r ∈ ys, r.Ok := fun r hr => by
      rw [hys] at hr
      rcases List.mem_or_eq_of_mem_set hr with h | rfl
      · exact rsok _ h
      · exact tw_ok (rsok _ (List.mem_of_getElem? hrk))
    refine hK10 _ _ ?_
    refine c_seqreg (fun K13 hK13 => ?_)
    refine s_val rfl rfl (runs_move rfl) ?_
    refine s_val rfl rfl (runs_and64 1023 rfl (by decide)) ?_
    refine s_val rfl rfl (runs_move rfl) ?_
    refine s_val rfl rfl (runs_len_slice Tryd.underlying22 rfl) ?_
    refine s_val rfl rfl (runs_as (v' := .int .i64 (k : Int)) (runs_rem64 rfl rfl (by omega) (by omega)) (congrArg (Value.int .i64) (by rw [hk]; exact rem_nat))) ?_
    refine s_val rfl rfl (runs_assign rfl) ?_
    refine s_nil ?_
    refine hK13 _ _ ?_
    refine c_seq (fun K14 hK14 => ?_)
    refine c_seqreg (fun K15 hK15 => ?_)
    refine s_val rfl rfl (runs_move rfl) ?_
    refine s_callf (xs := [.tmp 31]) rfl rfl Tryd.func12 rfl (by kernel_rfl) rfl (lsLen_calls hL) ?_
    rintro _ w7 ⟨rfl, X7_1⟩
    replace hG := hG.keep X7_1 (by simp)
    replace hX : Chg w _ [] := (hX.trans X7_1).mono (by intro k hk hlt; simp at hk ⊢ <;> first | omega | grind)
    replace hb5 := hb5.keep X7_1 (by simp)
    replace hL := hL.keep X7_1 (by simp)
    replace hby := hby.keep X7_1 (by simp)
    replace hM := hM.keep X7_1 (by simp)
    have zs7_1 := X7_1.size
    rw [hlsl]
    refine s_val rfl rfl (runs_move rfl) ?_
    refine s_nil ?_
    have hzX7 := hX.size
    refine hK15 _ _ ?_
    refine c_block ?_
    refine c_loop (σ := Nat) (fun i => [(33, .int .i64 (i : Int)), (32, .int .i64 (n : Int)), (1, .int .i64 (k : Int)), (5, .pointer (some ⟨b5, 0, none⟩)), (7, .pointer (some ⟨bx, 0, none⟩)), (8, .pointer (some ⟨by_, 0, none⟩))]) (fun i W => i ≤ n ∧ GH B W ∧ Chg w W [] ∧ Blk W b5 x.C 34 ∧ LsV W w1.heap.size hxh bx v1 v2 rs ∧ ∃ hi u1 u2, LsV W by_ hi by_ u1 u2 (ys.take i)) (fun i => n - i) 0 ⟨rfl, rfl, rfl, rfl, rfl, rfl, trivial⟩ ⟨Nat.zero_le _, hG, hX, hb5, hL, _, _, _, by simpa using hM⟩ ?_
    rintro i wi ⟨hi', hG, hX, hb5, hL, hi, u1, u2, hM⟩
    have hzX := hX.size
    have htop := hM.top
    have htopx := hL.top
    have hrg := hM.rng
    refine c_seqreg (fun K17 hK17 => ?_)
    refine s_val rfl rfl (runs_lt rfl rfl) ?_
    refine s_nil ?_
    refine hK17 _ _ ?_
    refine c_seq (fun K18 hK18 => ?_)
    refine c_dec rfl (fun hin => ?_) (fun hin => ?_)
    · obtain ⟨r, hr⟩ : ∃ r, rs[i]? = some r := ⟨_, List.getElem?_eq_getElem (by omega)⟩
      have hor := rsok r (List.mem_of_getElem? hr)
      refine c_skip ?_
      refine hK18 _ _ ?_
      refine c_seq (fun K19 hK19 => ?_)
      refine c_block ?_
      refine c_seqreg (fun K20 hK20 => ?_)
      refine s_val rfl rfl (runs_move rfl) ?_
      refine s_val rfl rfl (runs_assign rfl) ?_
      refine s_nil ?_
      refine hK20 _ _ ?_
      refine c_seqreg (fun K21 hK21 => ?_)
      refine s_val rfl rfl (runs_move rfl) ?_
      refine s_val rfl rfl (runs_move rfl) ?_
      refine s_callf (xs := [.tmp 36, .tmp 37]) rfl rfl Tryd.func13 rfl (by kernel_rfl) rfl (lsAt_calls hL i r hr) ?_
      rintro _ w102 ⟨rfl, X10_2⟩
      replace hG := hG.keep X10_2 (by simp)
      replace hX : Chg w _ [] := (hX.trans X10_2).mono (by intro k hk hlt; simp at hk ⊢ <;> first | omega | grind)
      replace hb5 := hb5.keep X10_2 (by simp)
      replace hL := hL.keep X10_2 (by simp)
      replace hM := hM.keep X10_2 (by simp)
      have zs10_2 := X10_2.size
      refine s_alloc ty34 rfl rfl ?_
      intro b10 w103 e10_3 z10_3 hb10 X10_3
      have s10_3_hX := hX.size
      have s10_3_hb5 := hb5.lt
      replace hG := hG.keep X10_3 (by simp)
      replace hX : Chg w _ [] := (hX.trans X10_3).mono (by intro k hk hlt; simp at hk ⊢ <;> first | omega | grind)
      replace hb5 := hb5.keep X10_3 (by simp)
      replace hL := hL.keep X10_3 (by simp)
      replace hM := hM.keep X10_3 (by simp)
      refine s_storeAll ty34 rfl rfl rfl hb10 (Rw.len r) rfl (Rw.one r) ?_
      intro w104 z10_4 h10_4 X10_4
      replace hG := hG.keep X10_4 (by simp; omega)
      replace hX : Chg w _ [] := (hX.trans X10_4).mono (by intro k hk hlt; simp at hk ⊢ <;> first | omega | grind)
      replace hb5 := hb5.keep X10_4 (by simp; omega)
      replace hL := hL.keep X10_4 (by simp; omega)
      replace hM := hM.keep X10_4 (by simp; omega)
      replace hb10 := h10_4
      refine s_nil ?_
      have hl10 := hb10.lt
      refine hK21 _ _ ?_
      refine c_seq (fun K25 hK25 => ?_)
      have hJ25 : ∀ (z : Rw) (W : World), (ys[i]? = some z ∧ GH B W ∧ Chg w W [] ∧ Blk W b5 x.C 34 ∧ Blk W b10 z.C 34 ∧ LsV W w1.heap.size hxh bx v1 v2 rs ∧ LsV W by_ hi by_ u1 u2 (ys.take i)) → ∀ ρ : Env, SubL ([(10, .pointer (some ⟨b10, 0, none⟩)), (33, .int .i64 (i : Int)), (32, .int .i64 (n : Int)), (1, .int .i64 (k : Int)), (5, .pointer (some ⟨b5, 0, none⟩)), (7, .pointer (some ⟨bx, 0, none⟩)), (8, .pointer (some ⟨by_, 0, none⟩))]) ρ → K25 ρ W := by
        intro z W hI ρ hρ
        refine hK25 _ _ (c_sub _ hρ ?_)
        clear hρ
        obtain ⟨hz, hG, hX, hb5, hb10, hL, hM⟩ := hI
        have hzX := hX.size
        have hoz := ysok z (List.mem_of_getElem? hz)
        refine c_reg ?_
        refine s_val rfl rfl (runs_move rfl) ?_
        refine s_val rfl rfl (runs_loadAgg ty34 rfl hb10.at (Rw.len _)) ?_
        refine s_callf (xs := [.tmp 52, .tmp 53]) rfl rfl Tryd.func18 rfl (by kernel_rfl) rfl (add_calls B _ _ _ _ _ _ z _ hM hG (by omega) hoz (by rw [List.length_take]; omega)) ?_
        rintro vz w14 ⟨y1, y2, hM', X14_2, hG'⟩
        replace hX : Chg w _ [] := (hX.trans X14_2).mono (by intro k hk hlt; have := hrg k (by simpa using hk); omega)
        replace hb5 := hb5.keep X14_2 (fun hm => by have := hrg _ hm; omega)
        replace hL := hL.keep X14_2 (fun k hk => .inr (by have := hrg k hk; omega))
        have zs14_2 := X14_2.size
        have hM := hM'
        have hG := hG'
        refine s_nil ?_
        refine hK19 _ _ ?_
        refine c_reg ?_
        refine s_val rfl rfl (runs_add64 rfl rfl (by omega)) ?_
        refine s_val rfl rfl (runs_move rfl) ?_
        refine s_nil ?_
        dsimp only [Post.setN]
        exact ⟨i + 1, ⟨rfl, rfl, rfl, rfl, rfl, rfl, trivial⟩, ⟨by omega, hG, hX, hb5, hL, _, _, _, by rw [List.take_add_one, hz]; exact hM⟩, by omega⟩
      refine c_seqreg (fun K27 hK27 => ?_)
      refine s_val rfl rfl (runs_move rfl) ?_
      refine s_val rfl rfl (runs_move rfl) ?_
      refine s_val rfl rfl (runs_eqd rfl rfl) ?_
      refine s_nil ?_
      refine hK27 _ _ ?_
      refine c_dec rfl (fun hik => ?_) (fun hik => ?_)
      · have hik' : i = k := by omega
        subst hik'
        obtain rfl : r = rk := by rw [hr] at hrk; exact Option.some.inj hrk
        refine c_seqreg (fun K28 hK28 => ?_)
        refine s_val rfl rfl (runs_fieldAddr Tryd.underlying34 rfl ty32 (by decide) rfl) ?_
        refine s_val rfl rfl (runs_fieldAddr Tryd.underlying32 rfl ty30 (by decide) rfl) ?_
        refine s_val rfl rfl (runs_load1 ty30 rfl (hb10.cell (o := 5) rfl)) ?_
        refine s_val rfl rfl (runs_xor1 rfl hor.num.am.2) ?_
        refine s_val rfl rfl (runs_fieldAddr Tryd.underlying34 rfl ty32 (by decide) rfl) ?_
        refine s_val rfl rfl (runs_fieldAddr Tryd.underlying32 rfl ty30 (by decide) rfl) ?_
        refine s_store1 ty30 rfl rfl rfl hb10 (by rfl) (by simp [Rw.C]) ?_
        intro w126 z12_6 h12_6 X12_6
        replace hG := hG.keep X12_6 (by simp; omega)
        replace hX : Chg w _ [] := (hX.trans X12_6).mono (by intro k hk hlt; simp at hk ⊢ <;> first | omega | grind)
        replace hb5 := hb5.keep X12_6 (by simp; omega)
        replace hL := hL.keep X12_6 (by simp; omega)
        replace hM := hM.keep X12_6 (by simp; omega)
        replace hb10 := h12_6
        refine s_nil ?_
        refine hK28 _ _ ?_
        refine c_reg ?_
        refine s_val rfl rfl (runs_fieldAddr Tryd.underlying34 rfl ty3 (by decide) rfl) ?_
        refine s_val rfl rfl (runs_load1 ty3 rfl (hb5.cell (o := 3) rfl)) ?_
        refine s_val rfl rfl (runs_and64 255 rfl (by decide)) ?_
        refine s_val rfl rfl (runs_fieldAddr Tryd.underlying34 rfl ty3 (by decide) rfl) ?_
        refine s_store1 ty3 rfl rfl rfl hb10 (by rfl) (by simp [Rw.C]) ?_
        intro w134 z13_4 h13_4 X13_4
        replace hG := hG.keep X13_4 (by simp; omega)
        replace hX : Chg w _ [] := (hX.trans X13_4).mono (by intro k hk hlt; simp at hk ⊢ <;> first | omega | grind)
        replace hb5 := hb5.keep X13_4 (by simp; omega)
        replace hL := hL.keep X13_4 (by simp; omega)
        replace hM := hM.keep X13_4 (by simp; omega)
        replace hb10 := h13_4
        refine s_nil ?_
        first
          | exact hJ25 (Sp.tw x.event r) _ ⟨by rw [hys, List.getElem?_set_self (by omega)], hG, hX, hb5, hb10, hL, hM⟩ _ ⟨rfl, rfl, rfl, rfl, rfl, rfl, rfl, trivial⟩
          | exact hJ25 r _ ⟨by rw [hys, List.getElem?_set_ne (by omega), hr], hG, hX, hb5, hb10, hL, hM⟩ _ ⟨rfl, rfl, rfl, rfl, rfl, rfl, rfl, trivial⟩
      · refine c_skip ?_
        first
          | exact hJ25 (Sp.tw x.event r) _ ⟨by rw [hys, List.getElem?_set_self (by omega)], hG, hX, hb5, hb10, hL, hM⟩ _ ⟨rfl, rfl, rfl, rfl, rfl, rfl, rfl, trivial⟩
          | exact hJ25 r _ ⟨by rw [hys, List.getElem?_set_ne (by omega), hr], hG, hX, hb5, hb10, hL, hM⟩ _ ⟨rfl, rfl, rfl, rfl, rfl, rfl, rfl, trivial⟩
    · have hin' : ys.take i = ys := List.take_of_length_le (by omega)
      rw [hin'] at hM
      refine c_exit ?_
      refine hK14 _ _ ?_
      refine c_seqreg (fun K31 hK31 => ?_)
      refine s_val rfl rfl (runs_build_zeroS (xs := #[(0, 1)]) Tryd.underlying41 ty41 rfl (by kernel_rfl)) ?_
      refine s_box rfl rfl rfl ?_
      intro bt w16t e16_1 z16_1 hbt X16_1
      have s16_1_hX := hX.size
      have s16_1_hb5 := hb5.lt
      replace hG := hG.keep X16_1 (by simp)
      replace hX : Chg w _ [] := (hX.trans X16_1).mono (by intro k hk hlt; simp at hk ⊢ <;> first | omega | grind)
      replace hb5 := hb5.keep X16_1 (by simp)
      replace hL := hL.keep X16_1 (by simp)
      replace hM := hM.keep X16_1 (by simp)
      replace hbt : Blk w16t bt ([.slice none 0 0]) 41 := hbt
      have hlbt := hbt.lt
      have hT := TL.new (B := B) (lo := bt) hbt (by omega) (Nat.le_refl _)
      refine s_val rfl rfl (runs_assign rfl) ?_
      refine s_nil ?_
      have htopx := hL.top
      have htopy := hM.top
      refine hK31 _ _ ?_
      by_cases heq : Sp.root (Sp.leaves rs) = Sp.root (Sp.leaves ys)
      · refine c_seqreg (fun K33 hK33 => ?_)
        refine s_val rfl rfl (runs_move rfl) ?_
        refine s_callf (xs := [.tmp 58]) rfl rfl Tryd.func12 rfl (by kernel_rfl) rfl (lsLen_calls hL) ?_
        rintro _ w171 ⟨rfl, X17_1⟩
        replace hG := hG.keep X17_1 (by simp)
        replace hX : Chg w _ [] := (hX.trans X17_1).mono (by intro k hk hlt; simp at hk ⊢ <;> first | omega | grind)
        replace hb5 := hb5.keep X17_1 (by simp)
        replace hL := hL.keep X17_1 (by simp)
        replace hM := hM.keep X17_1 (by simp)
        replace hbt := hbt.keep X17_1 (by simp)
        replace hT := hT.keep X17_1 (by simp)
        have zs17_1 := X17_1.size
        rw [hlsl]
        refine s_val rfl rfl (runs_move rfl) ?_
        refine s_callf (xs := [.tmp 60]) rfl rfl Tryd.func12 rfl (by kernel_rfl) rfl (lsLen_calls hM) ?_
        rintro _ w173 ⟨rfl, X17_3⟩
        replace hG := hG.keep X17_3 (by simp)
        replace hX : Chg w _ [] := (hX.trans X17_3).mono (by intro k hk hlt; simp at hk ⊢ <;> first | omega | grind)
        replace hb5 := hb5.keep X17_3 (by simp)
        replace hL := hL.keep X17_3 (by simp)
        replace hM := hM.keep X17_3 (by simp)
        replace hbt := hbt.keep X17_3 (by simp)
        replace hT := hT.keep X17_3 (by simp)
        have zs17_3 := X17_3.size
        rw [hysl]
        refine s_val rfl rfl (runs_dt (runs_eqd rfl rfl) rfl) ?_
        refine s_val rfl rfl (runs_move rfl) ?_
        refine s_val rfl rfl (runs_move rfl) ?_
        refine s_val rfl rfl (runs_move rfl) ?_
        refine s_callf (xs := [.tmp 64, .tmp 65]) rfl rfl Tryd.func17 rfl (by kernel_rfl) rfl (hT.lsRoot [] (by simp) hG (by omega) hL (by omega) (by omega) (by simp; omega)) ?_
        rintro _ w178 ⟨rfl, vt178, hC178⟩
        replace hG := hG.keep hC178.chg (fun k hk => by have h := hC178.ft k hk; simp [Rg] at h <;> omega)
        replace hX : Chg w _ [] := (hX.trans hC178.chg).mono (by intro k hk hlt; have h := hC178.ft k (by simpa using hk); simp [Rg] at h <;> omega)
        replace hb5 := hb5.keep hC178.chg (fun hm => by have h := hC178.ft _ hm; simp [Rg] at h <;> omega)
        replace hL := hL.keep hC178.chg (fun k hk => .inr (by have h := hC178.ft k hk; simp [Rg] at h; omega))
        replace hM := hM.keep hC178.chg (fun k hk => .inr (by have h := hC178.ft k hk; simp [Rg] at h; omega))
        have zs17_8 := hC178.chg.size
        have hT := hC178.tl
        refine s_val rfl rfl (runs_move rfl) ?_
        refine s_val rfl rfl (runs_move rfl) ?_
        refine s_callf (xs := [.tmp 67, .tmp 68]) rfl rfl Tryd.func17 rfl (by kernel_rfl) rfl (hT.lsRoot [] (by simp) hG (by omega) hM (by omega) (by omega) (by have := Sp.notes_le (Sp.leaves rs); simp [Sp.leaves] at this ⊢; omega)) ?_
        rintro _ w1711 ⟨rfl, vt1711, hC1711⟩
        replace hG := hG.keep hC1711.chg (fun k hk => by have h := hC1711.ft k hk; simp [Rg] at h <;> omega)
        replace hX : Chg w _ [] := (hX.trans hC1711.chg).mono (by intro k hk hlt; have h := hC1711.ft k (by simpa using hk); simp [Rg] at h <;> omega)
        replace hb5 := hb5.keep hC1711.chg (fun hm => by have h := hC1711.ft _ hm; simp [Rg] at h <;> omega)
        replace hL := hL.keep hC1711.chg (fun k hk => .inr (by have h := hC1711.ft k hk; simp [Rg] at h; omega))
        replace hM := hM.keep hC1711.chg (fun k hk => .inr (by have h := hC1711.ft k hk; simp [Rg] at h; omega))
        have zs17_11 := hC1711.chg.size
        have hT := hC1711.tl
        refine s_val rfl rfl (runs_df (runs_hv_ne rfl rfl (root_ok _ _ (Nat.le_refl _) (leavesR_ok _)) (root_ok _ _ (Nat.le_refl _) (leavesR_ok _))) (fun h => h heq)) ?_
        refine s_val rfl rfl (runs_move rfl) ?_
        refine s_val rfl rfl (runs_move rfl) ?_
        refine s_callf (xs := [.tmp 72]) rfl rfl Tryd.func15 rfl (by kernel_rfl) rfl (hT.clash hG (by omega) (by
            intro z hz
            simp only [List.mem_append, List.mem_map] at hz
            have h1 := notes_short _ _ (Nat.le_refl _) (leavesR_ok rs) z
            have h2 := notes_short _ _ (Nat.le_refl _) (leavesR_ok ys) z
            rcases hz with (hz | hz | hz) | hz | hz
            · simp at hz
            · obtain ⟨r, _, rfl⟩ := hz; simp [rowB_len]
            · have := h1 hz; omega
            · obtain ⟨r, _, rfl⟩ := hz; simp [rowB_len]
            · have := h2 hz; omega)) ?_
        rintro _ wcl ⟨bc, rfl, hbc, Xcl⟩
        replace hG := hG.keep Xcl (by simp)
        replace hX : Chg w _ [] := (hX.trans Xcl).mono (by intro k hk hlt; simp at hk ⊢ <;> first | omega | grind)
        replace hb5 := hb5.keep Xcl (by simp)
        replace hL := hL.keep Xcl (by simp)
        replace hM := hM.keep Xcl (by simp)
        replace hT := hT.keep Xcl (by simp)
        have zs17_15 := Xcl.size
        obtain rfl := hbc.2 (by
            rw [hys] at heq ⊢
            exact apart_law hrk rsok heq (fun z hz => by simp only [List.mem_append]; rcases hz with hz | hz | hz | hz <;> simp only [hz, true_or, or_true]))
        refine s_val rfl rfl (runs_pickf rfl rfl) ?_
        refine s_val rfl rfl (runs_pickt rfl rfl) ?_
        refine s_val rfl rfl (runs_assign rfl) ?_
        refine s_nil ?_
        refine hK33 _ _ ?_
        refine c_ret ?_
        refine hret _ _ ?_
        exact ends1 (reads_tmp rfl) ⟨rfl, hX⟩
      · refine c_seqreg (fun K33 hK33 => ?_)
        refine s_val rfl rfl (runs_move rfl) ?_
        refine s_callf (xs := [.tmp 58]) rfl rfl Tryd.func12 rfl (by kernel_rfl) rfl (lsLen_calls hL) ?_
        rintro _ w171 ⟨rfl, X17_1⟩
        replace hG := hG.keep X17_1 (by simp)
        replace hX : Chg w _ [] := (hX.trans X17_1).mono (by intro k hk hlt; simp at hk ⊢ <;> first | omega | grind)
        replace hb5 := hb5.keep X17_1 (by simp)
        replace hL := hL.keep X17_1 (by simp)
        replace hM := hM.keep X17_1 (by simp)
        replace hbt := hbt.keep X17_1 (by simp)
        replace hT := hT.keep X17_1 (by simp)
        have zs17_1 := X17_1.size
        rw [hlsl]
        refine s_val rfl rfl (runs_move rfl) ?_
        refine s_callf (xs := [.tmp 60]) rfl rfl Tryd.func12 rfl (by kernel_rfl) rfl (lsLen_calls hM) ?_
        rintro _ w173 ⟨rfl, X17_3⟩
        replace hG := hG.keep X17_3 (by simp)
        replace hX : Chg w _ [] := (hX.trans X17_3).mono (by intro k hk hlt; simp at hk ⊢ <;> first | omega | grind)
        replace hb5 := hb5.keep X17_3 (by simp)
        replace hL := hL.keep X17_3 (by simp)
        replace hM := hM.keep X17_3 (by simp)
        replace hbt := hbt.keep X17_3 (by simp)
        replace hT := hT.keep X17_3 (by simp)
        have zs17_3 := X17_3.size
        rw [hysl]
        refine s_val rfl rfl (runs_dt (runs_eqd rfl rfl) rfl) ?_
        refine s_val rfl rfl (runs_move rfl) ?_
        refine s_val rfl rfl (runs_move rfl) ?_
        refine s_val rfl rfl (runs_move rfl) ?_
        refine s_callf (xs := [.tmp 64, .tmp 65]) rfl rfl Tryd.func17 rfl (by kernel_rfl) rfl (hT.lsRoot [] (by simp) hG (by omega) hL (by omega) (by omega) (by simp; omega)) ?_
        rintro _ w178 ⟨rfl, vt178, hC178⟩
        replace hG := hG.keep hC178.chg (fun k hk => by have h := hC178.ft k hk; simp [Rg] at h <;> omega)
        replace hX : Chg w _ [] := (hX.trans hC178.chg).mono (by intro k hk hlt; have h := hC178.ft k (by simpa using hk); simp [Rg] at h <;> omega)
        replace hb5 := hb5.keep hC178.chg (fun hm => by have h := hC178.ft _ hm; simp [Rg] at h <;> omega)
        replace hL := hL.keep hC178.chg (fun k hk => .inr (by have h := hC178.ft k hk; simp [Rg] at h; omega))
        replace hM := hM.keep hC178.chg (fun k hk => .inr (by have h := hC178.ft k hk; simp [Rg] at h; omega))
        have zs17_8 := hC178.chg.size
        have hT := hC178.tl
        refine s_val rfl rfl (runs_move rfl) ?_
        refine s_val rfl rfl (runs_move rfl) ?_
        refine s_callf (xs := [.tmp 67, .tmp 68]) rfl rfl Tryd.func17 rfl (by kernel_rfl) rfl (hT.lsRoot [] (by simp) hG (by omega) hM (by omega) (by omega) (by have := Sp.notes_le (Sp.leaves rs); simp [Sp.leaves] at this ⊢; omega)) ?_
        rintro _ w1711 ⟨rfl, vt1711, hC1711⟩
        replace hG := hG.keep hC1711.chg (fun k hk => by have h := hC1711.ft k hk; simp [Rg] at h <;> omega)
        replace hX : Chg w _ [] := (hX.trans hC1711.chg).mono (by intro k hk hlt; have h := hC1711.ft k (by simpa using hk); simp [Rg] at h <;> omega)
        replace hb5 := hb5.keep hC1711.chg (fun hm => by have h := hC1711.ft _ hm; simp [Rg] at h <;> omega)
        replace hL := hL.keep hC1711.chg (fun k hk => .inr (by have h := hC1711.ft k hk; simp [Rg] at h; omega))
        replace hM := hM.keep hC1711.chg (fun k hk => .inr (by have h := hC1711.ft k hk; simp [Rg] at h; omega))
        have zs17_11 := hC1711.chg.size
        have hT := hC1711.tl
        refine s_val rfl rfl (runs_dt (runs_hv_ne rfl rfl (root_ok _ _ (Nat.le_refl _) (leavesR_ok _)) (root_ok _ _ (Nat.le_refl _) (leavesR_ok _))) heq) ?_
        refine s_val rfl rfl (runs_move rfl) ?_
        refine s_skip rfl rfl ?_
        refine s_skip rfl rfl ?_
        refine s_val rfl rfl (runs_pickt rfl rfl) ?_
        refine s_val rfl rfl (runs_pickt rfl rfl) ?_
        refine s_val rfl rfl (runs_assign rfl) ?_
        refine s_nil ?_
        refine hK33 _ _ ?_
        refine c_ret ?_
        refine hret _ _ ?_
        exact ends1 (reads_tmp rfl) ⟨rfl, hX⟩
end Go.Proofs.YtlkeofjgmegcfaaDoor
