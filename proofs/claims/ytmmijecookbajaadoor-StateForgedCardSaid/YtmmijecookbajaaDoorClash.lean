/- Part Clash of the proofs on this seat. Conditions: none beyond those in the theorems. By an AI agent. -/
import Derived.Test.YtmmijecookbajaaDoorAllIt
import Derived.Test.YtmmijecookbajaaDoorCM2
namespace Go.Proofs.YtmmijecookbajaaDoor
open Go Go.RowKit

theorem runs_makeFunc {P : Program} {ρ : Env} {w : World} {ty : TypeId} {x : Operand} {v : Value} {f : FuncId} (hx : ev? ρ x = some v) : Runs P ρ (.makeFunc (.func f) #[x] #[]) ty w (.func (.func f) #[v] #[]) w := fun ev he => by
  simp [execOp, Instr.makeFunc, he _ _ hx]
/-- Two unlike ones have one hash. -/
def Sp.Clash (xs : List (List Nat)) : Prop := ∃ x ∈ xs, ∃ y ∈ xs, Sp.sha x = Sp.sha y ∧ x ≠ y
theorem parts_one {w : World} {b : Nat} {a1 : Option Addr} {n1 c1 : Nat} {x : List Nat} {t : TypeId} (hb : Blk w b (flatC [.slice a1 n1 c1]) t) (h1 : Bytes w a1 n1 c1 x) (l1 : ∀ v ∈ x, v < 256) : Parts w (some ⟨b, 0, none⟩) 1 1 [x] := by
  refine ⟨⟨_, lit_reads hb rfl (by decide), rfl, ?_⟩⟩
  intro i v bs hv hbs
  match i, hv, hbs with
  | 0, hv, hbs =>
    simp [flatC, Value.cells] at hv hbs
    subst hv hbs
    exact ⟨⟨a1, c1, by rw [h1.length], by rw [h1.length]; exact h1⟩, l1⟩
  | i + 1, hv, hbs => simp [flatC, Value.cells] at hv
theorem lookup_in {w : World} {b : Nat} {ps : List (List Nat × ByteArray)} (M : MapH w b ps) {h : List Nat} (ok : HOk h) {s : ByteArray} (hin : (h, s) ∈ ps) (hu : ∀ p ∈ ps, p.1 = h → p.2 = s) :
    (Instr.lookup 67 (.map (some b)) (hv h) true).run Tryd.prog w = .ok (.tuple #[.string s, .bool true]) w := by
  rcases run_lookup M ok with ⟨h1, _⟩ | ⟨s', h1, h2⟩
  · exact absurd rfl (h1 _ hin)
  · rw [h2, show s' = s from hu _ h1 rfl]
theorem lookup_out {w : World} {b : Nat} {ps : List (List Nat × ByteArray)} (M : MapH w b ps) {h : List Nat} (ok : HOk h) (hout : ∀ p ∈ ps, p.1 ≠ h) :
    (Instr.lookup 67 (.map (some b)) (hv h) true).run Tryd.prog w = .ok (.tuple #[.string .empty, .bool false]) w := by
  rcases run_lookup M ok with ⟨_, h1⟩ | ⟨s', h1, _⟩
  · exact h1
  · exact absurd rfl (hout _ h1)

/-- An object that lies there. -/
structure ObjAt (w : World) (b : Nat) (o : Obj) : Prop where
  at_ : w.heap[b]? = some o
theorem ObjAt.lt {w : World} {b : Nat} {o : Obj} (h : ObjAt w b o) : b < w.heap.size := (Array.getElem?_eq_some_iff.1 h.at_).1
theorem ObjAt.keep {w w' : World} {b : Nat} {o : Obj} {M : List Nat} (h : ObjAt w b o) (x : Chg w w' M) (hn : b ∉ M) : ObjAt w' b o := ⟨(x.block b h.lt hn).trans h.at_⟩
/-- What the map holds of the lists xs. -/
def Seen (ps : List (List Nat × ByteArray)) (xs : List (List Nat)) : Prop := (∀ p ∈ ps, ∃ x ∈ xs, p = (Sp.sha x, bstr x)) ∧ ∀ x ∈ xs, (Sp.sha x, bstr x) ∈ ps
/-- What lies there between two rounds of Clash. -/
structure CI (w W : World) (b2 b3 bm D : Nat) (xs : List (List Nat)) : Prop where
  m : ∃ ps, MapH W bm ps ∧ Seen ps xs
  un : ¬ Sp.Clash xs
  v3 : Blk W b3 [.map (some bm)] 67
  v2 : Blk W b2 [.bool false] 4
  df : ObjAt W D (.deferred (some []))
  chg : Chg w W []
structure CX (w W : World) (b2 D : Nat) (xs : List (List Nat)) : Prop where
  cl : Sp.Clash xs
  v2 : Blk W b2 [.bool true] 4
  df : ObjAt W D (.deferred (some []))
  chg : Chg w W []
theorem CI.keep {w W W' : World} {b2 b3 bm D : Nat} {xs : List (List Nat)} {M : List Nat} (h : CI w W b2 b3 bm D xs) (x : Chg W W' M) (h1 : bm ∉ M) (h2 : b3 ∉ M) (h3 : b2 ∉ M) (h4 : D ∉ M) (h5 : ∀ k ∈ M, w.heap.size ≤ k) : CI w W' b2 b3 bm D xs := by
  obtain ⟨ps, hm, hs⟩ := h.m
  exact ⟨⟨ps, hm.keep x h1, hs⟩, h.un, h.v3.keep x h2, h.v2.keep x h3, h.df.keep x h4, (h.chg.trans x).mono (by intro k hk hlt; have := h5 k (by simpa using hk); omega)⟩
theorem CX.keep {w W W' : World} {b2 D : Nat} {xs : List (List Nat)} {M : List Nat} (h : CX w W b2 D xs) (x : Chg W W' M) (h3 : b2 ∉ M) (h4 : D ∉ M) (h5 : ∀ k ∈ M, w.heap.size ≤ k) : CX w W' b2 D xs :=
  ⟨h.cl, h.v2.keep x h3, h.df.keep x h4, (h.chg.trans x).mono (by intro k hk hlt; have := h5 k (by simpa using hk); omega)⟩

theorem clash_snoc {xs : List (List Nat)} {x : List Nat} (h : ¬ Sp.Clash xs) (hz : ∀ z ∈ xs, Sp.sha z = Sp.sha x → z = x) : ¬ Sp.Clash (xs ++ [x]) := by
  rintro ⟨a, ha, b, hb, e, hne⟩
  simp only [List.mem_append, List.mem_singleton] at ha hb
  rcases ha with ha | rfl
  · rcases hb with hb | rfl
    · exact h ⟨a, ha, b, hb, e, hne⟩
    · exact hne (hz a ha e)
  · rcases hb with hb | rfl
    · exact hne (hz b hb e.symm).symm
    · exact hne rfl
theorem seen_snoc {ps ps' : List (List Nat × ByteArray)} {xs : List (List Nat)} {x : List Nat} (hs : Seen ps xs) (hp : ∀ p, p ∈ ps' ↔ p ∈ ps ∨ p = (Sp.sha x, bstr x)) : Seen ps' (xs ++ [x]) := by
  refine ⟨fun p h => ?_, fun z h => ?_⟩
  · rcases (hp p).1 h with h | rfl
    · obtain ⟨y, hy, e⟩ := hs.1 p h
      exact ⟨y, by simp [hy], e⟩
    · exact ⟨x, by simp, rfl⟩
  · simp only [List.mem_append, List.mem_singleton] at h
    rcases h with h | rfl
    · exact (hp _).2 (.inl (hs.2 z h))
    · exact (hp _).2 (.inr rfl)

set_option maxHeartbeats 2000000 in
theorem clash_calls (B : Nat) (A : Nat → Prop) (bt : Nat) (vt : Value) (xs : List (List Nat)) (w : World) (hG : GH B w) (hBw : B ≤ w.heap.size) (hT : TapeR w B A bt vt xs) (hA : ∀ k, A k → k < w.heap.size) (hxn : ∀ x ∈ xs, x.length ≤ 1099511627776) :
    CallsR Tryd.prog 20 #[.pointer (some ⟨bt, 0, none⟩)] w fun v w' => ∃ b, v = .bool b ∧ (b = true ↔ Sp.Clash xs) ∧ Chg w w' [] := by
  refine f_marks (args := [.pointer (some ⟨bt, 0, none⟩)]) Tryd.func20 rfl rfl rfl rfl ?_
  intro Q a ha hQ
  refine wp_pre ha (K := fun ρ W => ∃ b2, ρ = [(2, .pointer (some ⟨b2, 0, none⟩)), (0, .pointer (some ⟨bt, 0, none⟩))] ∧ w.heap.size ≤ b2 ∧ Blk W b2 [.bool false] 4 ∧ Chg w W []) ?_ ?_
  · refine c_reg ?_
    refine s_alloc ty4 rfl rfl ?_
    intro b2 w1 e1 z1 hb2 X1
    exact s_nil ⟨b2, rfl, by omega, hb2, X1⟩
  rintro ρ1 w1 ⟨b2, rfl, hb2w, hb2, X1⟩ a1 ha1
  refine wp_pre ha1 (K := fun ρ W => ∃ b3 bm, ρ = [(3, .pointer (some ⟨b3, 0, none⟩)), (8, .map (some bm)), (2, .pointer (some ⟨b2, 0, none⟩)), (0, .pointer (some ⟨bt, 0, none⟩))] ∧ b2 < bm ∧ bm < b3 ∧ Blk W b2 [.bool false] 4 ∧ MapH W bm [] ∧ Blk W b3 [.map (some bm)] 67 ∧ Chg w W []) ?_ ?_
  · refine c_reg ?_
    refine s_makeMap rfl rfl ?_
    intro bm w2 e2 z2 hm X2
    refine s_alloc ty67 rfl rfl ?_
    intro b3 w3 e3 z3 hb3 X3
    refine s_store1 ty67 rfl rfl rfl hb3 (by rfl) (by simp [Value.cells]) ?_
    intro w4 z4 h4 X4
    have hl2 := hb2.lt
    have hs1 := X1.size
    refine s_nil ⟨b3, bm, rfl, by omega, by omega, ((hb2.keep X2 (by simp)).keep X3 (by simp)).keep X4 (by simp; omega), (hm.keep X3 (by simp)).keep X4 (by simp; omega), h4, ((((X1.trans X2).trans X3).trans X4)).mono ?_⟩
    intro k hk hlt; simp at hk; omega
  rintro ρ2 w2 ⟨b3, bm, rfl, h23, hm3, hb2, hm, hb3, X2⟩ a2 ha2
  refine wp_seq ?_
  refine wp_pre ha2 (K := fun ρ W => ρ = [(10, .func (.func 24) #[.pointer (some ⟨bt, 0, none⟩)] #[]), (9, .pointer (some ⟨bt, 0, none⟩)), (3, .pointer (some ⟨b3, 0, none⟩)), (8, .map (some bm)), (2, .pointer (some ⟨b2, 0, none⟩)), (0, .pointer (some ⟨bt, 0, none⟩))] ∧ W = w2) ?_ ?_
  · refine c_reg ?_
    refine s_val rfl rfl (runs_move rfl) ?_
    refine s_val rfl rfl (runs_makeFunc rfl) ?_
    exact s_nil ⟨rfl, rfl⟩
  rintro ρ3 w3 ⟨rfl, rfl⟩ a3 ha3
  refine wp_block ?_
  have hs2 := X2.size
  have hl3 := hb3.lt
  refine wp_mono (range_wp (R1 := fun W => CI w W b2 b3 bm w3.heap.size xs) (R2 := fun W => CX w W b2 w3.heap.size xs) (ev_of ha3 rfl) Tryd.func24 rfl (by kernel_rfl) ?_) ?_
  · intro fn W1 rc hrc hl1 hD1 Y1 s1
    obtain ⟨tvs, hown, htl, hnoted⟩ := hT.own
    obtain ⟨at', ct, rfl, hR, _⟩ := own_reads hown
    have hX31 : Chg w W1 [] := X2.trans Y1
    refine (all_calls (l := w3.heap.size + 1) (fun i W => ObjAt W (w3.heap.size + 1) (.loop rc) ∧ CI w W b2 b3 bm w3.heap.size (xs.take i)) (fun W => ObjAt W (w3.heap.size + 1) (.loop { rc with state := .done, pending := some .ret }) ∧ CX w W b2 w3.heap.size xs) (by rw [hrc]; rfl) (fun i W h => ⟨h.1.at_, hR.keep h.2.chg (by simp)⟩) (hT.blk.keep hX31 (by simp)) ?_ ?_).mono ?_
    · exact ⟨⟨hl1⟩, ⟨[], hm.keep Y1 (by simp), by simp [Seen]⟩, by simp [Sp.Clash], hb3.keep Y1 (by simp), hb2.keep Y1 (by simp), ⟨hD1⟩, hX31⟩
    · rintro i u W hu ⟨hl, C⟩
      subst hrc
      have hil : i < xs.length := by have := (List.getElem?_eq_some_iff.1 hu).1; omega
      obtain ⟨x, hxi⟩ : ∃ x, xs[i]? = some x := ⟨_, List.getElem?_eq_getElem hil⟩
      obtain ⟨hxl, ax, cx, rfl, hbx, hbxd⟩ := hnoted i u x hu hxi
      have hbxA : ∀ p, ax = some p → A p.block := fun p hp => (hbxd p hp).2.2
      have hxm := List.mem_of_getElem? hxi
      have hx40 := hxn x hxm
      have htk : xs.take (i + 1) = xs.take i ++ [x] := by rw [List.take_add_one, hxi]; rfl
      obtain ⟨ps, hm0, hseen⟩ := C.m
      refine rnd_of (n := 32) (ρ := [(3, .pointer (some ⟨b3, 0, none⟩)), (2, .pointer (some ⟨b2, 0, none⟩))]) hl.at_ rfl rfl ⟨rfl, ha3.2.1, fun t v h => ha3.2.2 t v (SubL.get (E := [(3, .pointer (some ⟨b3, 0, none⟩)), (2, .pointer (some ⟨b2, 0, none⟩))]) ⟨rfl, rfl, trivial⟩ h)⟩ rfl ?_
      refine r_reg rfl ?_
      refine s_val rfl rfl (runs_assign rfl) ?_
      refine s_nil ⟨rfl, fun Wb hlb XW => ?_⟩
      have hX : Chg w Wb [] := (C.chg.trans XW).mono (by intro k hk hlt; simp at hk; omega)
      have hM := hm0.keep XW (by simp; omega)
      have hb3 := C.v3.keep XW (by simp; omega)
      have hb2 := C.v2.keep XW (by simp; omega)
      have hdf := C.df.keep XW (by simp)
      have hL : ObjAt Wb (w3.heap.size + 1) _ := ⟨hlb⟩
      have hG := hG.keep hX (by simp)
      have hbx := hbx.keep hX (by simp)
      have hlM := hM.lt
      have hbxlt : ∀ p, ax = some p → p.block < w.heap.size := fun p hp => hA _ (hbxA p hp)
      have hlL := hL.lt
      have hsX := hX.size
      have fin : ∀ (ps' : List (List Nat × ByteArray)) (W8 W' : World), MapH W8 bm ps' → Blk W8 b3 [.map (some bm)] 67 → Blk W8 b2 [.bool false] 4 → ObjAt W8 w3.heap.size (.deferred (some [])) → Chg w W8 [] → Chg W8 W' [w3.heap.size + 1] → (∀ p, p ∈ ps' ↔ p ∈ ps ∨ p = (Sp.sha x, bstr x)) → (∀ z ∈ xs.take i, Sp.sha z = Sp.sha x → z = x) → CI w W' b2 b3 bm w3.heap.size (xs.take (i + 1)) := by
        intro ps' W8 W' h1 h2 h3 h4 h5 h6 h7 h8
        rw [htk]
        exact CI.keep ⟨⟨ps', h1, seen_snoc hseen h7⟩, clash_snoc C.un h8, h2, h3, h4, h5⟩ h6 (by simp; omega) (by simp; omega) (by simp; omega) (by simp) (by simp; omega)
      by_cases hin : ∃ y ∈ xs.take i, Sp.sha y = Sp.sha x
      · obtain ⟨y, hy, hyx⟩ := hin
        have hun : ∀ z ∈ xs.take i, Sp.sha z = Sp.sha x → z = y := fun z hz e => Decidable.byContradiction fun hne => C.un ⟨z, hz, y, hy, e.trans hyx.symm, hne⟩
        have hyl : ∀ v ∈ y, v < 256 := by
          obtain ⟨j, hj⟩ := List.getElem?_of_mem (List.mem_of_mem_take hy)
          exact (hnoted j _ y (List.getElem?_eq_getElem (by rw [htl]; exact (List.getElem?_eq_some_iff.1 hj).1)) hj).1
        have hpin : (Sp.sha x, bstr y) ∈ ps := hyx ▸ hseen.2 y hy
        have hpu : ∀ p ∈ ps, p.1 = Sp.sha x → p.2 = bstr y := by
          intro p hp e
          obtain ⟨z, hz, rfl⟩ := hseen.1 p hp
          rw [hun z hz e]
        refine r_block ?_
        refine r_seqreg rfl (fun K1 hK1 => ?_)
        refine s_val rfl rfl (runs_move rfl) ?_
        refine s_lit (xs := [.tmp 12]) Tryd.underlying51 ty47 rfl rfl rfl rfl rfl (by simp [Value.cells]) (by decide) (by decide) ?_
        intro b13 w41 e4_1 z4_1 hb13 X4_1
        have s4_1_hX := hX.size
        have s4_1_hb3 := hb3.lt
        have s4_1_hb2 := hb2.lt
        replace hG := hG.keep X4_1 (by simp)
        replace hX : Chg w _ [] := (hX.trans X4_1).mono (by intro k hk hlt; simp at hk ⊢ <;> first | omega | grind)
        replace hM := hM.keep X4_1 (by simp)
        replace hb3 := hb3.keep X4_1 (by simp)
        replace hb2 := hb2.keep X4_1 (by simp)
        replace hdf := hdf.keep X4_1 (by simp)
        replace hL := hL.keep X4_1 (by simp)
        replace hbx := hbx.keep X4_1 (by simp)
        refine s_callf (xs := [.const (.pointer none), .tmp 13]) rfl rfl Tryd.func18 rfl (by kernel_rfl) rfl (of0 hG (by omega) (parts_one hb13 hbx hxl) (by simp; omega)) ?_
        rintro _ w42 ⟨rfl, X4_2⟩
        replace hG := hG.keep X4_2 (by simp)
        replace hX : Chg w _ [] := (hX.trans X4_2).mono (by intro k hk hlt; simp at hk ⊢ <;> first | omega | grind)
        replace hM := hM.keep X4_2 (by simp)
        replace hb3 := hb3.keep X4_2 (by simp)
        replace hb2 := hb2.keep X4_2 (by simp)
        replace hdf := hdf.keep X4_2 (by simp)
        replace hL := hL.keep X4_2 (by simp)
        replace hbx := hbx.keep X4_2 (by simp)
        have zs4_2 := X4_2.size
        rw [show [x].flatten = x by simp]
        have hz42 := X4_2.size
        refine s_alloc ty26 rfl rfl ?_
        intro b5 w43 e4_3 z4_3 hb5 X4_3
        have s4_3_hX := hX.size
        have s4_3_hb3 := hb3.lt
        have s4_3_hb2 := hb2.lt
        replace hG := hG.keep X4_3 (by simp)
        replace hX : Chg w _ [] := (hX.trans X4_3).mono (by intro k hk hlt; simp at hk ⊢ <;> first | omega | grind)
        replace hM := hM.keep X4_3 (by simp)
        replace hb3 := hb3.keep X4_3 (by simp)
        replace hb2 := hb2.keep X4_3 (by simp)
        replace hdf := hdf.keep X4_3 (by simp)
        replace hL := hL.keep X4_3 (by simp)
        replace hbx := hbx.keep X4_3 (by simp)
        refine s_storeAll ty26 rfl rfl rfl hb5 (by rw [natsC_length, (sha_ok _).1]) rfl (natsC_one _ _) ?_
        intro w44 z4_4 h4_4 X4_4
        replace hG := hG.keep X4_4 (by simp; omega)
        replace hX : Chg w _ [] := (hX.trans X4_4).mono (by intro k hk hlt; simp at hk ⊢ <;> first | omega | grind)
        replace hM := hM.keep X4_4 (by simp; omega)
        replace hb3 := hb3.keep X4_4 (by simp; omega)
        replace hb2 := hb2.keep X4_4 (by simp; omega)
        replace hdf := hdf.keep X4_4 (by simp; omega)
        replace hL := hL.keep X4_4 (by simp; omega)
        replace hbx := hbx.keep X4_4 (fun p hp => by have := hbxlt p hp; simp; omega)
        replace hb5 := h4_4
        refine s_nil ?_
        refine hK1 _ _ ?_
        refine r_seq (fun K6 hK6 => ?_)
        refine r_seqreg rfl (fun K7 hK7 => ?_)
        refine s_val rfl rfl (runs_load1 ty67 rfl (hb3.c1 (j := 0) rfl)) ?_
        refine s_val rfl rfl (runs_loadAgg ty26 rfl hb5.at (by rw [natsC_length, (sha_ok _).1])) ?_
        refine s_val rfl rfl (runs_lookup rfl rfl (lookup_in hM (sha_ok _) hpin hpu)) ?_
        refine s_val rfl rfl (runs_move rfl) ?_
        refine s_val rfl rfl (runs_extract rfl rfl) ?_
        refine s_val rfl rfl (runs_extract rfl rfl) ?_
        refine s_val rfl rfl (runs_assign rfl) ?_
        refine s_val rfl rfl (runs_assign rfl) ?_
        refine s_nil ?_
        refine hK7 _ _ ?_
        refine r_seqreg rfl (fun K8 hK8 => ?_)
        refine s_val rfl rfl (runs_move rfl) ?_
        refine s_val rfl rfl (runs_move rfl) ?_
        refine s_val rfl rfl (runs_move rfl) ?_
        refine s_val rfl rfl (runs_move rfl) ?_
        refine s_val rfl rfl (runs_str rfl hbx hxl) ?_
        refine s_val rfl rfl (runs_strne rfl rfl) ?_
        refine s_val rfl rfl (runs_pickt rfl rfl) ?_
        refine s_nil ?_
        refine hK8 _ _ ?_
        refine r_dec rfl (fun hne => ?_) (fun hne => ?_)
        · refine r_seqreg rfl (fun K9 hK9 => ?_)
          refine s_store1 ty4 rfl rfl rfl hb2 (by rfl) (by simp) ?_
          intro w70 z7_0 h7_0 X7_0
          replace hX : Chg w _ [] := (hX.trans X7_0).mono (by intro k hk hlt; simp at hk ⊢ <;> first | omega | grind)
          replace hdf := hdf.keep X7_0 (by simp; omega)
          replace hL := hL.keep X7_0 (by simp; omega)
          replace hb5 := hb5.keep X7_0 (by simp; omega)
          replace hb2 := h7_0
          refine s_nil ?_
          refine hK9 _ _ ?_
          refine r_ret ?_
          exact ⟨hL.at_, fun W' hl' X' => ⟨fun h => (by cases h), fun _ => ⟨⟨hl'⟩, CX.keep ⟨⟨y, List.mem_of_mem_take hy, x, hxm, hyx, fun e => hne (by rw [e])⟩, hb2, hdf, hX⟩ X' (by simp; omega) (by simp) (by simp; omega)⟩⟩⟩
        · have hyx2 : y = x := bstr_inj hyl hxl (Decidable.byContradiction hne)
          refine r_skip ?_
          refine hK6 _ _ ?_
          refine r_reg rfl ?_
          refine s_val rfl rfl (runs_load1 ty67 rfl (hb3.c1 (j := 0) rfl)) ?_
          refine s_val rfl rfl (runs_loadAgg ty26 rfl hb5.at (by rw [natsC_length, (sha_ok _).1])) ?_
          refine s_val rfl rfl (runs_move rfl) ?_
          refine s_val rfl rfl (runs_str rfl hbx hxl) ?_
          refine s_mapUpdate rfl rfl rfl rfl hM (sha_ok _) (fun p hp e => by rw [hpu p hp e, hyx2]) ?_
          intro w84 ps' X8_4 hM' hps'
          replace hb3 := hb3.keep X8_4 (by simp; omega)
          replace hb2 := hb2.keep X8_4 (by simp; omega)
          replace hdf := hdf.keep X8_4 (by simp; omega)
          replace hL := hL.keep X8_4 (by simp; omega)
          replace hX : Chg w _ [] := (hX.trans X8_4).mono (by intro k hk hlt; simp at hk; omega)
          refine s_nil ?_
          exact ⟨hL.at_, fun W' hl' X' => ⟨fun _ => ⟨⟨hl'⟩, fin ps' w84 W' hM' hb3 hb2 hdf hX X' hps' (fun z hz e => (hun z hz e).trans hyx2)⟩, fun h => by cases h⟩⟩
      · have hpo : ∀ p ∈ ps, p.1 ≠ Sp.sha x := by
          intro p hp e
          obtain ⟨z, hz, rfl⟩ := hseen.1 p hp
          exact hin ⟨z, hz, e⟩
        refine r_block ?_
        refine r_seqreg rfl (fun K1 hK1 => ?_)
        refine s_val rfl rfl (runs_move rfl) ?_
        refine s_lit (xs := [.tmp 12]) Tryd.underlying51 ty47 rfl rfl rfl rfl rfl (by simp [Value.cells]) (by decide) (by decide) ?_
        intro b13 w41 e4_1 z4_1 hb13 X4_1
        have s4_1_hX := hX.size
        have s4_1_hb3 := hb3.lt
        have s4_1_hb2 := hb2.lt
        replace hG := hG.keep X4_1 (by simp)
        replace hX : Chg w _ [] := (hX.trans X4_1).mono (by intro k hk hlt; simp at hk ⊢ <;> first | omega | grind)
        replace hM := hM.keep X4_1 (by simp)
        replace hb3 := hb3.keep X4_1 (by simp)
        replace hb2 := hb2.keep X4_1 (by simp)
        replace hdf := hdf.keep X4_1 (by simp)
        replace hL := hL.keep X4_1 (by simp)
        replace hbx := hbx.keep X4_1 (by simp)
        refine s_callf (xs := [.const (.pointer none), .tmp 13]) rfl rfl Tryd.func18 rfl (by kernel_rfl) rfl (of0 hG (by omega) (parts_one hb13 hbx hxl) (by simp; omega)) ?_
        rintro _ w42 ⟨rfl, X4_2⟩
        replace hG := hG.keep X4_2 (by simp)
        replace hX : Chg w _ [] := (hX.trans X4_2).mono (by intro k hk hlt; simp at hk ⊢ <;> first | omega | grind)
        replace hM := hM.keep X4_2 (by simp)
        replace hb3 := hb3.keep X4_2 (by simp)
        replace hb2 := hb2.keep X4_2 (by simp)
        replace hdf := hdf.keep X4_2 (by simp)
        replace hL := hL.keep X4_2 (by simp)
        replace hbx := hbx.keep X4_2 (by simp)
        have zs4_2 := X4_2.size
        rw [show [x].flatten = x by simp]
        have hz42 := X4_2.size
        refine s_alloc ty26 rfl rfl ?_
        intro b5 w43 e4_3 z4_3 hb5 X4_3
        have s4_3_hX := hX.size
        have s4_3_hb3 := hb3.lt
        have s4_3_hb2 := hb2.lt
        replace hG := hG.keep X4_3 (by simp)
        replace hX : Chg w _ [] := (hX.trans X4_3).mono (by intro k hk hlt; simp at hk ⊢ <;> first | omega | grind)
        replace hM := hM.keep X4_3 (by simp)
        replace hb3 := hb3.keep X4_3 (by simp)
        replace hb2 := hb2.keep X4_3 (by simp)
        replace hdf := hdf.keep X4_3 (by simp)
        replace hL := hL.keep X4_3 (by simp)
        replace hbx := hbx.keep X4_3 (by simp)
        refine s_storeAll ty26 rfl rfl rfl hb5 (by rw [natsC_length, (sha_ok _).1]) rfl (natsC_one _ _) ?_
        intro w44 z4_4 h4_4 X4_4
        replace hG := hG.keep X4_4 (by simp; omega)
        replace hX : Chg w _ [] := (hX.trans X4_4).mono (by intro k hk hlt; simp at hk ⊢ <;> first | omega | grind)
        replace hM := hM.keep X4_4 (by simp; omega)
        replace hb3 := hb3.keep X4_4 (by simp; omega)
        replace hb2 := hb2.keep X4_4 (by simp; omega)
        replace hdf := hdf.keep X4_4 (by simp; omega)
        replace hL := hL.keep X4_4 (by simp; omega)
        replace hbx := hbx.keep X4_4 (fun p hp => by have := hbxlt p hp; simp; omega)
        replace hb5 := h4_4
        refine s_nil ?_
        refine hK1 _ _ ?_
        refine r_seq (fun K6 hK6 => ?_)
        refine r_seqreg rfl (fun K7 hK7 => ?_)
        refine s_val rfl rfl (runs_load1 ty67 rfl (hb3.c1 (j := 0) rfl)) ?_
        refine s_val rfl rfl (runs_loadAgg ty26 rfl hb5.at (by rw [natsC_length, (sha_ok _).1])) ?_
        refine s_val rfl rfl (runs_lookup rfl rfl (lookup_out hM (sha_ok _) hpo)) ?_
        refine s_val rfl rfl (runs_move rfl) ?_
        refine s_val rfl rfl (runs_extract rfl rfl) ?_
        refine s_val rfl rfl (runs_extract rfl rfl) ?_
        refine s_val rfl rfl (runs_assign rfl) ?_
        refine s_val rfl rfl (runs_assign rfl) ?_
        refine s_nil ?_
        refine hK7 _ _ ?_
        refine r_seqreg rfl (fun K8 hK8 => ?_)
        refine s_val rfl rfl (runs_move rfl) ?_
        refine s_val rfl rfl (runs_move rfl) ?_
        refine s_skip rfl rfl ?_
        refine s_skip rfl rfl ?_
        refine s_skip rfl rfl ?_
        refine s_skip rfl rfl ?_
        refine s_val rfl rfl (runs_pickf rfl rfl) ?_
        refine s_nil ?_
        refine hK8 _ _ ?_
        refine r_false rfl ?_
        refine r_skip ?_
        refine hK6 _ _ ?_
        refine r_reg rfl ?_
        refine s_val rfl rfl (runs_load1 ty67 rfl (hb3.c1 (j := 0) rfl)) ?_
        refine s_val rfl rfl (runs_loadAgg ty26 rfl hb5.at (by rw [natsC_length, (sha_ok _).1])) ?_
        refine s_val rfl rfl (runs_move rfl) ?_
        refine s_val rfl rfl (runs_str rfl hbx hxl) ?_
        refine s_mapUpdate rfl rfl rfl rfl hM (sha_ok _) (fun p hp e => absurd e (hpo p hp)) ?_
        intro w84 ps' X8_4 hM' hps'
        replace hb3 := hb3.keep X8_4 (by simp; omega)
        replace hb2 := hb2.keep X8_4 (by simp; omega)
        replace hdf := hdf.keep X8_4 (by simp; omega)
        replace hL := hL.keep X8_4 (by simp; omega)
        replace hX : Chg w _ [] := (hX.trans X8_4).mono (by intro k hk hlt; simp at hk; omega)
        refine s_nil ?_
        exact ⟨hL.at_, fun W' hl' X' => ⟨fun _ => ⟨⟨hl'⟩, fin ps' w84 W' hM' hb3 hb2 hdf hX X' hps' (fun z hz e => absurd ⟨z, hz, e⟩ hin)⟩, fun h => by cases h⟩⟩
    · rintro _ W2 (⟨h1, h2⟩ | ⟨h1, h2⟩)
      · exact .inl ⟨h1.at_, by rwa [List.take_of_length_le (Nat.le_refl _)] at h2⟩
      · exact .inr ⟨h1.at_, h2⟩
  · rintro e a' w' ⟨rfl, ⟨rfl, W2, hR, Y⟩ | ⟨rfl, W2, hR, Y⟩⟩
    · have hC := hR.keep Y (by simp; omega) (by simp; omega) (by simp; omega) (by simp) (by simp; omega)
      refine wp_pre (D := [markOf w3]) (ρ := [(2, .pointer (some ⟨b2, 0, none⟩))]) (K := fun ρ W => ρ = [(2, .pointer (some ⟨b2, 0, none⟩))] ∧ Blk W b2 [.bool false] 4 ∧ ObjAt W w3.heap.size (.deferred (some [])) ∧ Chg w W []) ⟨by rw [ha3.1], ha3.2.1, fun t v h => ha3.2.2 t v (SubL.get (E := [(2, .pointer (some ⟨b2, 0, none⟩))]) ⟨rfl, trivial⟩ h)⟩ ?_ ?_
      · refine c_reg ?_
        refine s_store1 ty4 rfl rfl rfl hC.v2 (by rfl) (by simp) ?_
        intro w4 z4 h4 X4
        refine s_nil ⟨rfl, h4, hC.df.keep X4 (by simp; omega), (hC.chg.trans X4).mono ?_⟩
        intro k hk hlt; simp at hk; omega
      · rintro ρ4 w4 ⟨rfl, hv, hdf, hX⟩ a4 ha4
        refine wp_ret (hQ .ret _ w4 _ w3 (.inr rfl) ha4 hdf.at_ fun w'' Z => ?_)
        have hlt2 := hv.lt
        refine ends1 (reads_cell1 ty4 rfl ((hv.keep Z (by simp; omega)).c1 (j := 0) rfl)) ⟨false, rfl, by simpa using hC.un, (hX.trans Z).mono ?_⟩
        intro k hk hlt; simp at hk; omega
    · have hC := hR.keep Y (by simp; omega) (by simp) (by simp; omega)
      refine hQ .ret _ w' _ w3 (.inr rfl) ⟨by rw [ha3.1], ha3.2.1, ha3.2.2⟩ hC.df.at_ fun w'' Z => ?_
      have hlt2 := hC.v2.lt
      refine ends1 (reads_cell1 ty4 rfl ((hC.v2.keep Z (by simp; omega)).c1 (j := 0) rfl)) ⟨true, rfl, by simpa using hC.cl, (hC.chg.trans Z).mono ?_⟩
      intro k hk hlt; simp at hk; omega
end Go.Proofs.YtmmijecookbajaaDoor
