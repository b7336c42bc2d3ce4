/- sha.Of answers as the specification says and notes what it hashed. Conditions: none beyond those in the theorems. By an AI agent. -/
import Derived.Test.YtmmijecookbajaaDoorSum
namespace Go.Proofs.YtmmijecookbajaaDoor
open Go Go.RowKit

/-- Values that are slices of these bytes. -/
def Holds (w : World) (vs : List Value) (bss : List (List Nat)) : Prop :=
  vs.length = bss.length ∧ ∀ (i : Nat) (v : Value) (bs : List Nat), vs[i]? = some v → bss[i]? = some bs → (∃ a c, v = Value.slice a bs.length c ∧ Bytes w a bs.length c bs) ∧ ∀ x ∈ bs, x < 256
/-- A slice of slices of bytes. -/
structure Parts (w : World) (a : Option Addr) (n c : Nat) (bss : List (List Nat)) : Prop where
  rd : ∃ vs, SlR w 1 a n c vs ∧ Holds w vs bss
theorem Holds.grow {w w' : World} {vs : List Value} {bss : List (List Nat)} (h : Holds w vs bss) (x : Chg w w' []) : Holds w' vs bss :=
  ⟨h.1, fun i v bs hv hb => by
    obtain ⟨⟨a, c, e, r⟩, l⟩ := h.2 i v bs hv hb
    exact ⟨⟨a, c, e, r.grow x⟩, l⟩⟩
theorem Parts.grow {w w' : World} {a : Option Addr} {n c : Nat} {bss : List (List Nat)} (h : Parts w a n c bss) (x : Chg w w' []) : Parts w' a n c bss := by
  obtain ⟨vs, h1, h2⟩ := h.rd
  exact ⟨⟨vs, h1.grow x, h2.grow x⟩⟩
theorem Parts.length {w : World} {a : Option Addr} {n c : Nat} {bss : List (List Nat)} (h : Parts w a n c bss) : bss.length = n := by
  obtain ⟨vs, h1, h2⟩ := h.rd
  have := h1.len
  rw [← h2.1]; omega
theorem Bytes.keepH {w w' : World} {a : Option Addr} {n c : Nat} {bs : List Nat} {M : List Nat} (h : Bytes w a n c bs) (x : Chg w w' M) (hM : ∀ p, a = some p → bs ≠ [] → p.block ∉ M) : Bytes w' a n c bs := by
  by_cases hb : bs = []
  · subst hb
    exact ⟨h.len, h.le, h.mx, fun p hp => ⟨(h.cells p hp).1, fun j v hv => by simp [natsC] at hv⟩, h.nil⟩
  · exact h.keep x (fun p hp => hM p hp hb)

theorem Parts.lt {w : World} {a : Option Addr} {n c : Nat} {bss : List (List Nat)} (h : Parts w a n c bss) : ∀ x ∈ bss.flatten, x < 256 := by
  obtain ⟨vs, _, h2⟩ := h.rd
  intro x hx
  obtain ⟨bs, hb, hxb⟩ := List.mem_flatten.1 hx
  obtain ⟨i, hi, rfl⟩ := List.getElem_of_mem hb
  exact (h2.2 i _ _ (List.getElem?_eq_getElem (by rw [h2.1]; exact hi)) (List.getElem?_eq_getElem hi)).2 x hxb
/-- A tape: the struct's block bt, its slice's value vt, what was noted. All its blocks are from B on, and such that A holds. -/
structure TapeR (w : World) (B : Nat) (A : Nat → Prop) (bt : Nat) (vt : Value) (bss : List (List Nat)) : Prop where
  blk : Blk w bt [vt] 53
  lo : B ≤ bt
  hi : A bt
  own : ∃ vs, w.ownsRow (bt + 1) 47 1 vt bss.length vs ∧ vs.length = bss.length ∧ ∀ (i : Nat) (v : Value) (bs : List Nat), vs[i]? = some v → bss[i]? = some bs →
    (∀ x ∈ bs, x < 256) ∧ ∃ a c, v = Value.slice a bs.length c ∧ Bytes w a bs.length c bs ∧ ∀ p, a = some p → p.block ≠ bt ∧ vt.ownBlock ≠ some p.block ∧ A p.block
  ownHi : ∀ k, vt.ownBlock = some k → A k
/-- What a tape is, as an argument: nil, or the struct's block, the slice, what was noted. -/
abbrev TS := Option (Nat × Value × List (List Nat))
def foot : TS → List Nat
  | none => []
  | some (bt, vt, _) => bt :: vt.ownBlock.toList
def TArg (w : World) (B : Nat) (A : Nat → Prop) (v : Value) : TS → Prop
  | none => v = .pointer none
  | some (bt, vt, bss) => v = .pointer (some ⟨bt, 0, none⟩) ∧ TapeR w B A bt vt bss
/-- How much was noted. -/
def TS.len : TS → Nat
  | none => 0
  | some (_, _, bss) => bss.length
/-- ts' is ts, and L noted besides. -/
def Notes (L : List (List Nat)) : TS → TS → Prop
  | none, ts' => ts' = none
  | some (bt, _, bss), ts' => ∃ vt', ts' = some (bt, vt', bss ++ L)
theorem Notes.nil {ts : TS} : Notes [] ts ts := by
  cases ts with
  | none => rfl
  | some x => obtain ⟨bt, vt, bss⟩ := x; exact ⟨vt, by simp⟩
theorem Notes.trans {L L' : List (List Nat)} {a b c : TS} (h : Notes L a b) (h' : Notes L' b c) : Notes (L ++ L') a c := by
  cases a with
  | none => simp only [Notes] at h; subst h; exact h'
  | some x =>
    obtain ⟨bt, vt, bss⟩ := x
    obtain ⟨vt', rfl⟩ := h
    obtain ⟨vt'', rfl⟩ := h'
    exact ⟨vt'', by simp⟩
theorem Notes.len {L : List (List Nat)} {a b : TS} (h : Notes L a b) : b.len ≤ a.len + L.length := by
  cases a with
  | none => simp only [Notes] at h; subst h; simp [TS.len]
  | some x => obtain ⟨bt, vt, bss⟩ := x; obtain ⟨vt', rfl⟩ := h; simp [TS.len]
theorem TArg.foot_lo {w : World} {B : Nat} {A : Nat → Prop} {v : Value} {ts : TS} (h : TArg w B A v ts) : ∀ k ∈ foot ts, B ≤ k := by
  cases ts with
  | none => simp [foot]
  | some x =>
    obtain ⟨bt, vt, bss⟩ := x
    obtain ⟨_, T⟩ := h
    intro k hk
    simp only [foot, List.mem_cons, Option.mem_toList] at hk
    rcases hk with rfl | hk
    · exact T.lo
    · obtain ⟨vs, ho, _⟩ := T.own
      have := ho.lt k hk
      have := T.lo
      omega
theorem TArg.foot_hi {w : World} {B : Nat} {A : Nat → Prop} {v : Value} {ts : TS} (h : TArg w B A v ts) : ∀ k ∈ foot ts, A k := by
  cases ts with
  | none => simp [foot]
  | some x =>
    obtain ⟨bt, vt, bss⟩ := x
    obtain ⟨_, T⟩ := h
    intro k hk
    simp only [foot, List.mem_cons, Option.mem_toList] at hk
    rcases hk with rfl | hk
    · exact T.hi
    · exact T.ownHi k hk
theorem TArg.mono {w : World} {B : Nat} {A A' : Nat → Prop} {v : Value} {ts : TS} (h : TArg w B A v ts) (hA : ∀ k, A k → A' k) : TArg w B A' v ts := by
  cases ts with
  | none => exact h
  | some x =>
    obtain ⟨bt, vt, bss⟩ := x
    obtain ⟨e, T⟩ := h
    refine ⟨e, T.blk, T.lo, hA _ T.hi, ?_, fun k hk => hA _ (T.ownHi k hk)⟩
    obtain ⟨vs, h1, h2, h3⟩ := T.own
    refine ⟨vs, h1, h2, fun i v bs hv hb => ?_⟩
    obtain ⟨l, a, c, e, r, d⟩ := h3 i v bs hv hb
    exact ⟨l, a, c, e, r, fun p hp => ⟨(d p hp).1, (d p hp).2.1, hA _ (d p hp).2.2⟩⟩
/-- A step that turns none of the tape's blocks. -/
theorem TArg.keep {w w' : World} {B : Nat} {A : Nat → Prop} {v : Value} {ts : TS} {M : List Nat} (h : TArg w B A v ts) (x : Chg w w' M) (hM : ∀ k ∈ M, ¬ A k) : TArg w' B A v ts := by
  have hn : ∀ k, A k → k ∉ M := fun k hk hm => hM k hm hk
  cases ts with
  | none => exact h
  | some y =>
    obtain ⟨bt, vt, bss⟩ := y
    obtain ⟨e, T⟩ := h
    refine ⟨e, T.blk.keep x (hn _ T.hi), T.lo, T.hi, ?_, T.ownHi⟩
    obtain ⟨vs, h1, h2, h3⟩ := T.own
    refine ⟨vs, own_keep h1 x (fun k hk => hn k (T.ownHi k hk)), h2, fun i v bs hv hb => ?_⟩
    obtain ⟨l, a, c, e, r, d⟩ := h3 i v bs hv hb
    exact ⟨l, a, c, e, r.keep x (fun p hp => hn _ (d p hp).2.2), d⟩
theorem TArg.keep0 {w w' : World} {B : Nat} {A : Nat → Prop} {v : Value} {ts : TS} (h : TArg w B A v ts) (x : Chg w w' []) : TArg w' B A v ts := h.keep x (by simp)

/-- The blocks that a call may add. -/
def Adds (A : Nat → Prop) (lo hi : Nat) (k : Nat) : Prop := A k ∨ (lo ≤ k ∧ k < hi)
/-- What a call leaves that notes L on the tape. -/
structure TPost (w w' : World) (B : Nat) (A : Nat → Prop) (v : Value) (ts ts' : TS) (L : List (List Nat)) : Prop where
  arg : TArg w' B (Adds A w.heap.size w'.heap.size) v ts'
  notes : Notes L ts ts'
  chg : Chg w w' (foot ts)
  foot : ∀ k ∈ foot ts', k ∈ foot ts ∨ w.heap.size ≤ k
theorem TPost.refl {w : World} {B : Nat} {A : Nat → Prop} {v : Value} {ts : TS} (h : TArg w B A v ts) : TPost w w B A v ts ts [] :=
  ⟨h.mono fun _ hk => .inl hk, Notes.nil, Chg.refl _ _, fun _ hk => .inl hk⟩
theorem TPost.trans {w w1 w2 : World} {B : Nat} {A A1 : Nat → Prop} {v : Value} {ts ts1 ts2 : TS} {L L' : List (List Nat)} (h : TPost w w1 B A v ts ts1 L) (k : TPost w1 w2 B A1 v ts1 ts2 L')
    (hA : ∀ b, A1 b → Adds A w.heap.size w1.heap.size b) : TPost w w2 B A v ts ts2 (L ++ L') := by
  have hs := h.chg.size
  have hs2 := k.chg.size
  refine ⟨k.arg.mono fun b hb => ?_, h.notes.trans k.notes, (h.chg.trans k.chg).mono ?_, ?_⟩
  · rcases hb with hb | hb
    · rcases hA b hb with hb | hb
      · exact .inl hb
      · exact .inr ⟨hb.1, by omega⟩
    · exact .inr ⟨by omega, hb.2⟩
  · intro b hb hlt
    simp only [List.mem_append] at hb
    rcases hb with hb | hb
    · exact hb
    · rcases h.foot b hb with hb | hb
      · exact hb
      · omega
  · intro b hb
    rcases k.foot b hb with hb | hb
    · exact h.foot b hb
    · exact .inr (by omega)
/-- A step besides that turns no block of the tape's. -/
theorem TPost.then {w w1 w2 : World} {B : Nat} {A : Nat → Prop} {v : Value} {ts ts1 : TS} {L : List (List Nat)} {M : List Nat} (h : TPost w w1 B A v ts ts1 L) (x : Chg w1 w2 M) (hM : ∀ k ∈ M, w.heap.size ≤ k ∧ ¬ Adds A w.heap.size w1.heap.size k) : TPost w w2 B A v ts ts1 L := by
  have hs := x.size
  refine ⟨(h.arg.keep x fun k hk => (hM k hk).2).mono fun b hb => hb.imp id fun hb => ⟨hb.1, by omega⟩, h.notes, (h.chg.trans x).mono ?_, h.foot⟩
  intro b hb hlt
  simp only [List.mem_append] at hb
  rcases hb with hb | hb
  · exact hb
  · have := (hM b hb).1; omega
theorem TPost.then0 {w w1 w2 : World} {B : Nat} {A : Nat → Prop} {v : Value} {ts ts1 : TS} {L : List (List Nat)} (h : TPost w w1 B A v ts ts1 L) (x : Chg w1 w2 []) : TPost w w2 B A v ts ts1 L := h.then x (by simp)
/-- Steps ahead of the call. -/
theorem TPost.before {w w1 w2 : World} {B : Nat} {A : Nat → Prop} {v : Value} {ts ts1 : TS} {L : List (List Nat)} {M : List Nat} (x : Chg w w1 M) (hM : ∀ k ∈ M, w.heap.size ≤ k) (h : TPost w1 w2 B A v ts ts1 L) : TPost w w2 B A v ts ts1 L := by
  have hs := x.size
  refine ⟨h.arg.mono fun b hb => hb.imp id fun hb => ⟨by omega, hb.2⟩, h.notes, (x.trans h.chg).mono ?_, ?_⟩
  · intro b hb hlt
    simp only [List.mem_append] at hb
    rcases hb with hb | hb
    · have := hM b hb; omega
    · exact hb
  · intro b hb
    rcases h.foot b hb with hb | hb
    · exact .inl hb
    · exact .inr (by omega)

/-- A call's own cells laid ahead of it, and written behind it. -/
theorem TPost.wrap {w w1 w2 w3 : World} {B : Nat} {A : Nat → Prop} {v : Value} {ts ts1 : TS} {L : List (List Nat)} {M M0 : List Nat} (x0 : Chg w w1 M0) (hM0 : ∀ k ∈ M0, w.heap.size ≤ k) (h : TPost w1 w2 B A v ts ts1 L) (x : Chg w2 w3 M)
    (hM : ∀ k ∈ M, w.heap.size ≤ k ∧ ¬ Adds A w1.heap.size w2.heap.size k) : TPost w w3 B A v ts ts1 L := by
  have h0 := x0.size
  have hs := x.size
  have h1 := h.chg.size
  refine ⟨(h.arg.keep x fun k hk => (hM k hk).2).mono fun b hb => hb.imp id fun hb => ⟨by omega, by omega⟩, h.notes, ((x0.trans h.chg).trans x).mono ?_, ?_⟩
  · intro b hb hlt
    simp only [List.mem_append] at hb
    rcases hb with (hb | hb) | hb
    · have := hM0 b hb; omega
    · exact hb
    · have := (hM b hb).1; omega
  · intro b hb
    rcases h.foot b hb with hb | hb
    · exact .inl hb
    · exact .inr (by omega)

theorem flat_take (bss : List (List Nat)) (i : Nat) (bs : List Nat) (h : bss[i]? = some bs) : (bss.take (i + 1)).flatten = (bss.take i).flatten ++ bs := by
  rw [List.take_add_one, h]; simp
theorem flat_len (bss : List (List Nat)) (i : Nat) : (bss.take i).flatten.length ≤ bss.flatten.length := by
  have e : bss.flatten = (bss.take i).flatten ++ (bss.drop i).flatten := by rw [← List.flatten_append, List.take_append_drop]
  rw [e, List.length_append]; omega

set_option maxHeartbeats 1000000 in
theorem of_nil (B : Nat) (bss : List (List Nat)) (a : Option Addr) (n c : Nat) (w : World) (hG : GS B w) (hBw : B ≤ w.heap.size) (hP : Parts w a n c bss) (hn : bss.flatten.length ≤ 1099511627776) :
    CallsR Tryd.prog 18 #[.pointer none, .slice a n c] w fun v w' => v = .agg (natsC .u8 (Sp.sha bss.flatten)).toArray ∧ Chg w w' [] := by
  have hlen := hP.length
  have hB : Below w.heap.size w w := Below.refl _ _
  have hnm : n ≤ maxLen := by obtain ⟨vs, h1, _⟩ := hP.rd; have := h1.le; have := h1.mx; omega
  unfold maxLen at hnm
  refine f_enter (l := [.pointer none, .slice a n c]) Tryd.func18 rfl rfl rfl rfl ?_
  intro Qf hnrm hret
  refine c_seqreg (fun K1 hK1 => ?_)
  refine s_alloc ty26 rfl rfl ?_
  intro b4 w1 e0_0 z0_0 hb4 X0_0
  have s0_0_hB := hB.size
  replace hB := Below.chg hB hB.size X0_0 (by simp)
  replace hG := hG.keep X0_0 (by simp)
  replace hB : Below w1.heap.size w1 w1 := Below.refl _ _
  have hP1 := hP.grow X0_0
  refine s_nil ?_
  refine hK1 _ _ ?_
  refine c_seqreg (fun K3 hK3 => ?_)
  refine s_val rfl rfl (runs_assign rfl) ?_
  refine s_nil ?_
  refine hK3 _ _ ?_
  refine c_seq (fun K4 hK4 => ?_)
  refine c_seqreg (fun K5 hK5 => ?_)
  refine s_val rfl rfl (runs_move rfl) ?_
  refine s_val rfl rfl (runs_len_slice Tryd.underlying51 rfl) ?_
  refine s_val rfl rfl (runs_move rfl) ?_
  refine s_nil ?_
  refine hK5 _ _ ?_
  refine c_block ?_
  refine c_loop (σ := Nat × Value) (fun s => [(5, s.2), (10, .int .i64 (s.1 : Int)), (0, .pointer none), (8, .slice a n c), (9, .int .i64 (n : Int)), (4, .pointer (some ⟨b4, 0, none⟩))]) (fun s w' => s.1 ≤ n ∧ w'.ownsRow (b4 + 1) 5 1 s.2 (bss.take s.1).flatten.length (natsC .u8 (bss.take s.1).flatten) ∧ Blk w' b4 (List.replicate 32 (.int .u8 0)) 26 ∧ GS B w' ∧ Below w1.heap.size w1 w') (fun s => n - s.1) (0, .slice none 0 0) ⟨rfl, rfl, rfl, rfl, rfl, rfl, trivial⟩ ⟨Nat.zero_le _, World.ownsRow_nil _ _ _ _, hb4, hG, hB⟩ ?_
  intro ⟨i, v5⟩ w2 ⟨hi, hown, hb4, hG, hB⟩
  dsimp only at hi hown ⊢
  obtain ⟨a5, c5, rfl, hR5, hob5⟩ := own_reads hown
  refine c_seqreg (fun K6 hK6 => ?_)
  refine s_val rfl rfl (runs_lt rfl rfl) ?_
  refine s_nil ?_
  refine hK6 _ _ ?_
  refine c_seq (fun K7 hK7 => ?_)
  refine c_dec rfl (fun hin => ?_) (fun hin => ?_)
  · obtain ⟨vs, hvs, hho⟩ := (hP1.grow (Chg.of_below hB)).rd
    obtain ⟨ba, oa, rfl⟩ := hvs.some_ (by omega)
    obtain ⟨bs, hbs⟩ : ∃ bs, bss[i]? = some bs := ⟨_, List.getElem?_eq_getElem (by omega)⟩
    obtain ⟨v, hv⟩ : ∃ v, vs[i]? = some v := ⟨_, List.getElem?_eq_getElem (by rw [hho.1]; omega)⟩
    obtain ⟨⟨a', c', rfl, hrb⟩, hbl⟩ := hho.2 i v bs hv hbs
    have hft := flat_take bss i bs hbs
    have hfl := flat_len bss (i + 1)
    have hfl2 : (bss.take (i + 1)).flatten.length = (bss.take i).flatten.length + bs.length := by rw [hft, List.length_append]
    refine c_skip ?_
    refine hK7 _ _ ?_
    refine c_seq (fun K8 hK8 => ?_)
    refine c_block ?_
    refine c_seqreg (fun K9 hK9 => ?_)
    refine s_val rfl rfl (runs_index_slice (i) Tryd.underlying51 ty47 rfl rfl (by omega) (by omega)) ?_
    refine s_val rfl rfl (runs_load1 ty47 rfl (hvs.elem1 hv)) ?_
    refine s_val rfl rfl (runs_assign rfl) ?_
    refine s_nil ?_
    refine hK9 _ _ ?_
    refine c_reg ?_
    refine s_val rfl rfl (runs_move rfl) ?_
    refine s_val rfl rfl (runs_move rfl) ?_
    refine s_append Tryd.underlying47 ty5 rfl (by decide) rfl rfl rfl hown rfl hrb (natsC_one _ _) (by simp only [maxLen]; omega) (by omega) (by have := hb4.lt; omega) ?_
    intro v6 w3 H5_2 X5_2 F5_2
    replace hB := Below.chg hB hB.size X5_2 (fun k hm => by have := (hown).lt k (by simpa using hm); omega)
    replace hG := hG.keep X5_2 (fun k hm => by have := (hown).lt k (by simpa using hm); omega)
    replace hb4 := hb4.keep X5_2 (fun hm => by have := (hown).lt _ (by simpa using hm); omega)
    have hown := H5_2
    rw [← natsC_append, ← hft, ← hfl2] at hown
    refine s_val rfl rfl (runs_assign rfl) ?_
    refine s_nil ?_
    refine hK8 _ _ ?_
    refine c_reg ?_
    refine s_val rfl rfl (runs_add64 rfl rfl (by omega)) ?_
    refine s_val rfl rfl (runs_move rfl) ?_
    refine s_nil ?_
    dsimp only [Post.setN]
    refine ⟨(i + 1, v6), ⟨rfl, rfl, rfl, rfl, rfl, rfl, trivial⟩, ⟨by dsimp only; omega, hown, hb4, hG, hB⟩, by dsimp only; omega⟩
  · obtain rfl : i = n := by omega
    have hob5' : ∀ p, a5 = some p → b4 < p.block := fun p hp => (hown.lt p.block (by rw [hob5, hp]; rfl)).1
    rw [List.take_of_length_le (show bss.length ≤ i by omega)] at hown hR5 ⊢
    obtain ⟨all, hall⟩ : ∃ all, all = bss.flatten := ⟨_, rfl⟩
    rw [← hall] at hown hR5 hn ⊢
    refine c_exit ?_
    refine hK4 _ _ ?_
    refine c_seq (fun K11 hK11 => ?_)
    refine c_seqreg (fun K12 hK12 => ?_)
    refine s_val rfl rfl (runs_move rfl) ?_
    refine s_val rfl rfl (runs_nil_ne_nil Tryd.underlying50 rfl rfl) ?_
    refine s_nil ?_
    refine hK12 _ _ ?_
    refine c_false rfl ?_
    refine c_skip ?_
    refine hK11 _ _ ?_
    refine c_seqreg (fun K13 hK13 => ?_)
    refine s_val rfl rfl (runs_move rfl) ?_
    have hR9 := hR5
    have hbl9 : ∀ x ∈ all, x < 256 := hall ▸ hP.lt
    refine s_callf (xs := [.tmp 31]) rfl rfl Tryd.func27 rfl (by kernel_rfl) rfl (sum_calls B all _ _ _ _ hG (by have := hB.size; omega) hR9 hbl9 hn) ?_
    rintro v9_1 w9_1 ⟨rfl, X9_1⟩
    replace hG := hG.keep X9_1 (by simp)
    replace hb4 := hb4.keep X9_1 (by simp)
    have zs9_1 := X9_1.size
    have hC : Chg w1 _ [b4] := ((Chg.of_below hB).trans X9_1).mono (by simp)
    refine s_storeAll ty26 rfl rfl rfl hb4 (by rw [natsC_length, sha_length]) rfl (natsC_one _ _) ?_
    intro w9 z9_2 h9_2 X9_2
    replace hG := hG.keep X9_2 (by simp; omega)
    replace hC : Chg w1 _ [b4] := (hC.trans X9_2).mono (by intro k hk hlt; simp at hk ⊢ <;> first | omega | grind)
    replace hb4 := h9_2
    refine s_nil ?_
    refine hK13 _ _ ?_
    refine c_ret ?_
    refine hret _ _ ?_
    exact ends1 (reads_cell ty26 rfl hb4.at (by rw [natsC_length, sha_length])) ⟨by rw [hall], (X0_0.trans hC).mono (by intro k hk hlt; simp at hk; omega)⟩

set_option maxHeartbeats 1000000 in
theorem of_tape (B bt : Nat) (A : Nat → Prop) (vt : Value) (tss : List (List Nat)) (bss : List (List Nat)) (a : Option Addr) (n c : Nat) (w : World) (hG : GS B w) (hBw : B ≤ w.heap.size) (hP : Parts w a n c bss) (hn : bss.flatten.length ≤ 1099511627776)
    (hT : TapeR w B A bt vt tss) (hA : ∀ k, A k → k < w.heap.size) (htl : tss.length ≤ 1073741824) :
    CallsR Tryd.prog 18 #[.pointer (some ⟨bt, 0, none⟩), .slice a n c] w fun v w' => v = .agg (natsC .u8 (Sp.sha bss.flatten)).toArray ∧
      ∃ ts', TPost w w' B A (.pointer (some ⟨bt, 0, none⟩)) (some (bt, vt, tss)) ts' [bss.flatten] := by
  have hlen := hP.length
  have hB : Below w.heap.size w w := Below.refl _ _
  have hnm : n ≤ maxLen := by obtain ⟨vs, h1, _⟩ := hP.rd; have := h1.le; have := h1.mx; omega
  unfold maxLen at hnm
  refine f_enter (l := [.pointer (some ⟨bt, 0, none⟩), .slice a n c]) Tryd.func18 rfl rfl rfl rfl ?_
  intro Qf hnrm hret
  refine c_seqreg (fun K1 hK1 => ?_)
  refine s_alloc ty26 rfl rfl ?_
  intro b4 w1 e0_0 z0_0 hb4 X0_0
  have s0_0_hB := hB.size
  replace hB := Below.chg hB hB.size X0_0 (by simp)
  replace hG := hG.keep X0_0 (by simp)
  replace hB : Below w1.heap.size w1 w1 := Below.refl _ _
  have hP1 := hP.grow X0_0
  refine s_nil ?_
  refine hK1 _ _ ?_
  refine c_seqreg (fun K3 hK3 => ?_)
  refine s_val rfl rfl (runs_assign rfl) ?_
  refine s_nil ?_
  refine hK3 _ _ ?_
  refine c_seq (fun K4 hK4 => ?_)
  refine c_seqreg (fun K5 hK5 => ?_)
  refine s_val rfl rfl (runs_move rfl) ?_
  refine s_val rfl rfl (runs_len_slice Tryd.underlying51 rfl) ?_
  refine s_val rfl rfl (runs_move rfl) ?_
  refine s_nil ?_
  refine hK5 _ _ ?_
  refine c_block ?_
  refine c_loop (σ := Nat × Value) (fun s => [(5, s.2), (10, .int .i64 (s.1 : Int)), (0, .pointer (some ⟨bt, 0, none⟩)), (8, .slice a n c), (9, .int .i64 (n : Int)), (4, .pointer (some ⟨b4, 0, none⟩))]) (fun s w' => s.1 ≤ n ∧ w'.ownsRow (b4 + 1) 5 1 s.2 (bss.take s.1).flatten.length (natsC .u8 (bss.take s.1).flatten) ∧ Blk w' b4 (List.replicate 32 (.int .u8 0)) 26 ∧ GS B w' ∧ Below w1.heap.size w1 w') (fun s => n - s.1) (0, .slice none 0 0) ⟨rfl, rfl, rfl, rfl, rfl, rfl, trivial⟩ ⟨Nat.zero_le _, World.ownsRow_nil _ _ _ _, hb4, hG, hB⟩ ?_
  intro ⟨i, v5⟩ w2 ⟨hi, hown, hb4, hG, hB⟩
  dsimp only at hi hown ⊢
  obtain ⟨a5, c5, rfl, hR5, hob5⟩ := own_reads hown
  refine c_seqreg (fun K6 hK6 => ?_)
  refine s_val rfl rfl (runs_lt rfl rfl) ?_
  refine s_nil ?_
  refine hK6 _ _ ?_
  refine c_seq (fun K7 hK7 => ?_)
  refine c_dec rfl (fun hin => ?_) (fun hin => ?_)
  · obtain ⟨vs, hvs, hho⟩ := (hP1.grow (Chg.of_below hB)).rd
    obtain ⟨ba, oa, rfl⟩ := hvs.some_ (by omega)
    obtain ⟨bs, hbs⟩ : ∃ bs, bss[i]? = some bs := ⟨_, List.getElem?_eq_getElem (by omega)⟩
    obtain ⟨v, hv⟩ : ∃ v, vs[i]? = some v := ⟨_, List.getElem?_eq_getElem (by rw [hho.1]; omega)⟩
    obtain ⟨⟨a', c', rfl, hrb⟩, hbl⟩ := hho.2 i v bs hv hbs
    have hft := flat_take bss i bs hbs
    have hfl := flat_len bss (i + 1)
    have hfl2 : (bss.take (i + 1)).flatten.length = (bss.take i).flatten.length + bs.length := by rw [hft, List.length_append]
    refine c_skip ?_
    refine hK7 _ _ ?_
    refine c_seq (fun K8 hK8 => ?_)
    refine c_block ?_
    refine c_seqreg (fun K9 hK9 => ?_)
    refine s_val rfl rfl (runs_index_slice (i) Tryd.underlying51 ty47 rfl rfl (by omega) (by omega)) ?_
    refine s_val rfl rfl (runs_load1 ty47 rfl (hvs.elem1 hv)) ?_
    refine s_val rfl rfl (runs_assign rfl) ?_
    refine s_nil ?_
    refine hK9 _ _ ?_
    refine c_reg ?_
    refine s_val rfl rfl (runs_move rfl) ?_
    refine s_val rfl rfl (runs_move rfl) ?_
    refine s_append Tryd.underlying47 ty5 rfl (by decide) rfl rfl rfl hown rfl hrb (natsC_one _ _) (by simp only [maxLen]; omega) (by omega) (by have := hb4.lt; omega) ?_
    intro v6 w3 H5_2 X5_2 F5_2
    replace hB := Below.chg hB hB.size X5_2 (fun k hm => by have := (hown).lt k (by simpa using hm); omega)
    replace hG := hG.keep X5_2 (fun k hm => by have := (hown).lt k (by simpa using hm); omega)
    replace hb4 := hb4.keep X5_2 (fun hm => by have := (hown).lt _ (by simpa using hm); omega)
    have hown := H5_2
    rw [← natsC_append, ← hft, ← hfl2] at hown
    refine s_val rfl rfl (runs_assign rfl) ?_
    refine s_nil ?_
    refine hK8 _ _ ?_
    refine c_reg ?_
    refine s_val rfl rfl (runs_add64 rfl rfl (by omega)) ?_
    refine s_val rfl rfl (runs_move rfl) ?_
    refine s_nil ?_
    dsimp only [Post.setN]
    refine ⟨(i + 1, v6), ⟨rfl, rfl, rfl, rfl, rfl, rfl, trivial⟩, ⟨by dsimp only; omega, hown, hb4, hG, hB⟩, by dsimp only; omega⟩
  · obtain rfl : i = n := by omega
    have hob5' : ∀ p, a5 = some p → b4 < p.block := fun p hp => (hown.lt p.block (by rw [hob5, hp]; rfl)).1
    rw [List.take_of_length_le (show bss.length ≤ i by omega)] at hown hR5 ⊢
    obtain ⟨all, hall⟩ : ∃ all, all = bss.flatten := ⟨_, rfl⟩
    rw [← hall] at hown hR5 hn ⊢
    refine c_exit ?_
    refine hK4 _ _ ?_
    refine c_seq (fun K11 hK11 => ?_)
    refine c_seqreg (fun K12 hK12 => ?_)
    refine s_val rfl rfl (runs_move rfl) ?_
    refine s_val rfl rfl (runs_ptr_ne_nil Tryd.underlying50 rfl rfl) ?_
    refine s_nil ?_
    obtain ⟨_, hbt, hlo, hhi, ⟨tvs, hown', htl1, hnoted⟩, hoh⟩ := (show TArg w B A (.pointer (some ⟨bt, 0, none⟩)) (some (bt, vt, tss)) from ⟨rfl, hT⟩).keep0 ((X0_0.trans (Chg.of_below hB)).mono (M' := []) (by simp))
    have hsz := hB.size
    have hC : Chg w1 _ (bt :: vt.ownBlock.toList) := (Chg.of_below hB).mono (by simp)
    have hov : ∀ k, vt.ownBlock = some k → bt + 1 ≤ k ∧ k < w.heap.size := fun k hk => ⟨(hown'.lt k hk).1, hA k (hoh k hk)⟩
    have hbtl := hA bt hhi
    have hb4l := hb4.lt
    have hGx := hG.lt1
    refine hK12 _ _ ?_
    refine c_true rfl ?_
    refine c_drawX [11] (vt.ownBlock.toList) (by kernel_rfl) ?_
    intro wd8 Xd8 hS8
    replace hC : Chg w1 _ (bt :: vt.ownBlock.toList) := (hC.trans Xd8).mono (by intro k hk hlt; simp at hk ⊢ <;> first | omega | grind)
    replace hG := hG.keep Xd8 (by simp)
    replace hb4 := hb4.keep Xd8 (by simp)
    replace hbt := hbt.keep Xd8 (by simp)
    replace hR5 := hR5.keep Xd8 (by simp)
    have zd8 := Xd8.size
    replace hown' := own_keep hown' Xd8 (by simp)
    have hzd := Xd8.size
    refine d_take 0 20 rfl (by kernel_rfl) rfl hS8 (fun wS hS => runs_move rfl) ?_
    refine d_take 1 21 rfl (by kernel_rfl) rfl hS8 (fun wS hS => runs_move rfl) ?_
    refine d_take 2 22 rfl (by kernel_rfl) rfl hS8 (fun wS hS => runs_nilCheck rfl) ?_
    refine d_take 3 23 rfl (by kernel_rfl) rfl hS8 (fun wS hS => runs_fieldAddr Tryd.underlying53 rfl ty51 (by decide) rfl) ?_
    refine d_take 4 24 rfl (by kernel_rfl) rfl hS8 (fun wS hS => runs_load1 ty51 rfl ((hbt.keep hS (fun hm => by have := hov bt (by simpa using hm); omega)).at 0 _ rfl)) ?_
    refine d_take 5 25 rfl (by kernel_rfl) rfl hS8 (fun wS hS => runs_move rfl) ?_
    refine d_only 6 rfl (by kernel_rfl) ?_
    refine s_append Tryd.underlying47 ty5 rfl (by decide) rfl rfl rfl (World.ownsRow_nil _ (b4 + 1) 5 1) rfl (hR5.keep hS8 (fun p hp hm => by have := hov _ (by simpa using hm); have := hob5' p hp; omega)) (natsC_one _ _) (by simp only [maxLen]; omega) (by omega) (by have := hS8.size; omega) ?_
    intro v26 w26 H8_6 X8_6 F8_6
    replace X8_6 : Chg _ _ [] := X8_6
    have h26 := H8_6
    rw [List.nil_append, Nat.zero_add] at h26
    obtain ⟨a26, c26, rfl, hR26, hob26⟩ := own_reads h26
    have hvt := own_keep hown' X8_6 (by simp)
    have hf26 : ∀ p, a26 = some p → w.heap.size < p.block := fun p hp => by
      have := (h26.lt p.block (by rw [hob26, hp]; rfl)).1
      omega
    have hf26' : ∀ p, a26 = some p → p.block < w26.heap.size := fun p hp => (h26.lt p.block (by rw [hob26, hp]; rfl)).2
    have hz26 := X8_6.size
    replace hS8 : Chg wd8 _ (vt.ownBlock.toList) := (hS8.trans X8_6).mono (by intro k hk hlt; simp at hk ⊢ <;> first | assumption | omega)
    refine s_nil ⟨.inr hS8, ?_⟩
    refine d_only 7 rfl (by kernel_rfl) ?_
    refine s_lit (xs := [.tmp 26]) Tryd.underlying51 ty47 rfl rfl rfl rfl rfl (by simp [Value.cells]) (by decide) (by decide) ?_
    intro b27 w27 e8_7 z8_7 hb27 X8_7
    replace hR26 := hR26.keep X8_7 (by simp)
    replace hvt := own_keep hvt X8_7 (by simp)
    replace hS8 : Chg wd8 _ (vt.ownBlock.toList) := (hS8.trans X8_7).mono (by intro k hk hlt; simp at hk ⊢ <;> first | assumption | omega)
    refine s_nil ⟨.inr hS8, ?_⟩
    refine d_only 8 rfl (by kernel_rfl) ?_
    refine s_append Tryd.underlying51 ty47 rfl (by decide) rfl rfl rfl hvt rfl (lit_reads hb27 rfl (by decide)) (by simp [flatC, Value.cells, Value.oneCell']) (by simp only [maxLen]; omega) (by omega) (by omega) ?_
    intro v28 w28 H8_8 X8_8 F8_8
    replace hR26 := hR26.keep X8_8 (fun p hp hm => by have := hov _ (by simpa using hm); have := hf26 p hp; omega)
    have hv28 := H8_8
    have hz28 := X8_8.size
    obtain ⟨a28, c28, rfl, hR28, hob28⟩ := own_reads hv28
    replace hS8 : Chg wd8 _ (vt.ownBlock.toList) := (hS8.trans X8_8).mono (by intro k hk hlt; simp at hk ⊢ <;> first | assumption | omega)
    refine s_nil ⟨.inr hS8, ?_⟩
    refine d_only 9 rfl (by kernel_rfl) ?_
    refine s_val rfl rfl (runs_nilCheck rfl) ?_
    refine s_nil ⟨.inr hS8, ?_⟩
    refine d_take 10 30 rfl (by kernel_rfl) rfl hS8 (fun wS hS => runs_fieldAddr Tryd.underlying53 rfl ty51 (by decide) rfl) ?_
    refine d_only 11 rfl (by kernel_rfl) ?_
    replace hC : Chg w1 _ (bt :: vt.ownBlock.toList) := (hC.trans hS8).mono (by intro k hk hlt; simp at hk ⊢ <;> first | omega | grind)
    replace hG := hG.keep hS8 (fun k hm => by have := hov k (by simpa using hm); omega)
    replace hb4 := hb4.keep hS8 (fun hm => by have := hov b4 (by simpa using hm); omega)
    replace hbt := hbt.keep hS8 (fun hm => by have := hov bt (by simpa using hm); omega)
    replace hR5 := hR5.keep hS8 (fun p hp hm => by have := hov _ (by simpa using hm); have := hob5' p hp; omega)
    refine s_store1 ty51 rfl rfl rfl hbt (by rfl) (by simp) ?_
    intro w11 z8_11 h8_11 X8_11
    replace hC : Chg w1 _ (bt :: vt.ownBlock.toList) := (hC.trans X8_11).mono (by intro k hk hlt; simp at hk ⊢ <;> first | omega | grind)
    replace hG := hG.keep X8_11 (by simp; omega)
    replace hb4 := hb4.keep X8_11 (by simp; omega)
    replace hR5 := hR5.keep X8_11 (fun p hp => by have := hob5' p hp; simp; omega)
    replace hR26 := hR26.keep X8_11 (fun p hp => by have := hf26 p hp; simp; omega)
    replace hv28 := own_keep hv28 X8_11 (fun k hk hm => by have := (hv28).lt k hk; simp at hm; omega)
    replace hbt := h8_11
    have hTR : TapeR w11 B (Adds A w1.heap.size w11.heap.size) bt (.slice a28 (tss.length + 1) c28) (tss ++ [all]) := by
      refine ⟨hbt, hlo, .inl hhi, ⟨tvs ++ flatC [.slice a26 all.length c26], by simpa using hv28, by simp [flatC, Value.cells, htl1], ?_⟩, ?_⟩
      · intro i v bs hv hb
        by_cases hi : i < tss.length
        · rw [List.getElem?_append_left (by omega)] at hv hb
          obtain ⟨l, a', c', e, r, d⟩ := hnoted i v bs hv hb
          refine ⟨l, a', c', e, ((r.keep Xd8 (by simp)).keep hS8 (fun p hp hm => (d p hp).2.1 (by simpa using hm))).keep X8_11 (fun p hp hm => (d p hp).1 (by simpa using hm)), fun p hp => ⟨(d p hp).1, fun h => ?_, .inl (d p hp).2.2⟩⟩
          rcases F8_8 _ h with h | h
          · exact (d p hp).2.1 h
          · have := hA _ (d p hp).2.2; omega
        · have hlt : i < (tss ++ [all]).length := (List.getElem?_eq_some_iff.1 hb).1
          obtain rfl : i = tss.length := by simp at hlt; omega
          rw [List.getElem?_append_right (by omega)] at hv hb
          simp [flatC, Value.cells, htl1] at hv hb
          subst hv hb
          refine ⟨hall ▸ hP.lt, a26, c26, rfl, hR26, fun p hp => ?_⟩
          have h1 := hf26 p hp
          have h2 := hf26' p hp
          refine ⟨by omega, fun h => ?_, .inr ⟨by omega, by omega⟩⟩
          rcases F8_8 _ h with h | h
          · have := hov _ h; omega
          · omega
      · intro k hk
        rcases F8_8 k hk with h | h
        · exact .inl (hoh k h)
        · have := (hv28.lt k hk).2
          exact .inr ⟨by omega, by omega⟩
    have hTP : TPost w1 w11 B A (.pointer (some ⟨bt, 0, none⟩)) (some (bt, vt, tss)) (some (bt, .slice a28 (tss.length + 1) c28, tss ++ [all])) [all] := by
      refine ⟨⟨rfl, hTR⟩, ⟨_, rfl⟩, hC, fun k hk => ?_⟩
      simp only [foot, List.mem_cons, Option.mem_toList] at hk ⊢
      rcases hk with hk | hk
      · exact .inl (.inl hk)
      · rcases F8_8 k hk with h | h
        · exact .inl (.inr h)
        · exact .inr (by omega)
    refine s_nil ⟨.inl rfl, ?_⟩
    refine d_done (by kernel_rfl) ?_
    refine hK11 _ _ ?_
    refine c_seqreg (fun K17 hK17 => ?_)
    refine s_val rfl rfl (runs_move rfl) ?_
    have hR9 := hR5
    have hbl9 : ∀ x ∈ all, x < 256 := hall ▸ hP.lt
    refine s_callf (xs := [.tmp 31]) rfl rfl Tryd.func27 rfl (by kernel_rfl) rfl (sum_calls B all _ _ _ _ hG (by omega) hR9 hbl9 hn) ?_
    rintro v9_1 w9_1 ⟨rfl, X9_1⟩
    replace hTP := hTP.then0 X9_1
    replace hb4 := hb4.keep X9_1 (by simp)
    have zs9_1 := X9_1.size
    have hTP9 := hTP
    refine s_storeAll ty26 rfl rfl rfl hb4 (by rw [natsC_length, sha_length]) rfl (natsC_one _ _) ?_
    intro w9 z9_2 h9_2 X9_2
    replace hb4 := h9_2
    refine s_nil ?_
    refine hK17 _ _ ?_
    refine c_ret ?_
    refine hret _ _ ?_
    exact ends1 (reads_cell ty26 rfl hb4.at (by rw [natsC_length, sha_length])) ⟨by rw [hall], _, hall ▸ TPost.wrap X0_0 (by simp) hTP X9_2 (by intro k hk; obtain rfl : k = b4 := (by simpa using hk); exact ⟨by omega, fun h => h.elim (fun h => by have := hA _ h; omega) (fun h => by omega)⟩)⟩

/-- sha.Of, whatever the tape. -/
theorem of_calls (B : Nat) (A : Nat → Prop) (tv : Value) (ts : TS) (bss : List (List Nat)) (a : Option Addr) (n c : Nat) (w : World) (hG : GS B w) (hBw : B ≤ w.heap.size) (hP : Parts w a n c bss) (hn : bss.flatten.length ≤ 1099511627776)
    (hT : TArg w B A tv ts) (hA : ∀ k, A k → k < w.heap.size) (htl : ts.len ≤ 1073741824) :
    CallsR Tryd.prog 18 #[tv, .slice a n c] w fun v w' => v = .agg (natsC .u8 (Sp.sha bss.flatten)).toArray ∧ ∃ ts', TPost w w' B A tv ts ts' [bss.flatten] := by
  cases ts with
  | none =>
    simp only [TArg] at hT
    subst hT
    refine (of_nil B bss a n c w hG hBw hP hn).mono fun v w' ⟨h1, h2⟩ => ⟨h1, none, rfl, rfl, h2, by simp [foot]⟩
  | some x =>
    obtain ⟨bt, vt, tss⟩ := x
    obtain ⟨rfl, T⟩ := hT
    exact of_tape B bt A vt tss bss a n c w hG hBw hP hn T hA htl
end Go.Proofs.YtmmijecookbajaaDoor
