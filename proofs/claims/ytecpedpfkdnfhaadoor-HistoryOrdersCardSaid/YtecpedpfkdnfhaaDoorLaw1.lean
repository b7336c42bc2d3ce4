/- Part Law1 of the proofs on this seat. Conditions: none beyond those in the theorems. By an AI agent. -/
import Derived.Test.YtecpedpfkdnfhaaDoorOrd0
import Derived.Test.YtecpedpfkdnfhaaDoorColl2
namespace Go.Proofs.YtecpedpfkdnfhaaDoor
open Go Go.RowKit

/-- Blocks from lo to hi, but for a few. -/
def Rg (lo hi : Nat) (l : List Nat) (k : Nat) : Prop := lo ≤ k ∧ k < hi ∧ k ∉ l
/-- A tape of the law's own: its blocks lie in a range, none of them among these. -/
structure TL (w : World) (B lo hi : Nat) (l : List Nat) (bt : Nat) (vt : Value) (L : List (List Nat)) : Prop where
  arg : TArg w B (Rg lo hi l) (.pointer (some ⟨bt, 0, none⟩)) (some (bt, vt, L))
  top : hi ≤ w.heap.size
theorem TL.keep {w w' : World} {B lo hi : Nat} {l : List Nat} {bt : Nat} {vt : Value} {L : List (List Nat)} {M : List Nat} (h : TL w B lo hi l bt vt L) (x : Chg w w' M) (hM : ∀ k ∈ M, ¬ Rg lo hi l k) : TL w' B lo hi l bt vt L :=
  ⟨h.arg.keep x hM, Nat.le_trans h.top x.size⟩
theorem TL.keep0 {w w' : World} {B lo hi : Nat} {l : List Nat} {bt : Nat} {vt : Value} {L : List (List Nat)} (h : TL w B lo hi l bt vt L) (x : Chg w w' []) : TL w' B lo hi l bt vt L := h.keep x (by simp)
/-- Ahead of a call: blocks of the law's own that came since are none of the tape's. -/
theorem TL.pre {w : World} {B lo hi : Nat} {l : List Nat} {bt : Nat} {vt : Value} {L : List (List Nat)} (h : TL w B lo hi l bt vt L) (l' : List Nat) (hl : ∀ x ∈ l', x ∈ l ∨ hi ≤ x) (hG : GH B w) (hB : B ≤ w.heap.size) :
    Pre B (Rg lo w.heap.size l') (.pointer (some ⟨bt, 0, none⟩)) (some (bt, vt, L)) w :=
  ⟨hG, hB, h.arg.mono fun k hk => ⟨hk.1, Nat.lt_of_lt_of_le hk.2.1 h.top, fun hm => (hl k hm).elim hk.2.2 (fun h' => by have := hk.2.1; omega)⟩, fun _ hk => hk.2.1⟩
/-- Behind it. -/
theorem TL.post {w w' : World} {B lo : Nat} {l' : List Nat} {bt : Nat} {tv vt : Value} {L L1 : List (List Nat)} {ts' : TS} (p : TPost w w' B (Rg lo w.heap.size l') tv (some (bt, vt, L)) ts' L1) (ht : tv = .pointer (some ⟨bt, 0, none⟩)) (hlo : lo ≤ w.heap.size) (hl : ∀ x ∈ l', x < w.heap.size) (hT : TArg w B (Rg lo w.heap.size l') tv (some (bt, vt, L))) :
    ∃ M vt', TL w' B lo w'.heap.size l' bt vt' (L ++ L1) ∧ Chg w w' M ∧ ∀ k ∈ M, Rg lo w.heap.size l' k := by
  subst ht
  obtain ⟨vt', rfl⟩ := p.notes
  have hs := p.chg.size
  refine ⟨_, vt', ⟨p.arg.mono fun k hk => ?_, Nat.le_refl _⟩, p.chg, fun k hk => hT.foot_hi k hk⟩
  rcases hk with hk | hk
  · exact ⟨hk.1, Nat.lt_of_lt_of_le hk.2.1 hs, hk.2.2⟩
  · exact ⟨Nat.le_trans hlo hk.1, hk.2, fun hm => by have := hl k hm; omega⟩
/-- What TL.pre and TL.post come to, of a call. -/
theorem TL.call {w : World} {B lo hi : Nat} {l : List Nat} {bt : Nat} {vt : Value} {L L1 : List (List Nat)} {f : FuncId} {args : Array Value} {R : Value → Prop} (h : TL w B lo hi l bt vt L) (l' : List Nat) (hl : ∀ x ∈ l', x ∈ l ∨ hi ≤ x) (hl2 : ∀ x ∈ l', x < w.heap.size) (hlo : lo ≤ w.heap.size) (hG : GH B w) (hB : B ≤ w.heap.size)
    (hc : Pre B (Rg lo w.heap.size l') (.pointer (some ⟨bt, 0, none⟩)) (some (bt, vt, L)) w → CallsR Tryd.prog f args w fun v w' => R v ∧ ∃ ts', TPost w w' B (Rg lo w.heap.size l') (.pointer (some ⟨bt, 0, none⟩)) (some (bt, vt, L)) ts' L1) :
    CallsR Tryd.prog f args w fun v w' => R v ∧ ∃ M vt', TL w' B lo w'.heap.size l' bt vt' (L ++ L1) ∧ Chg w w' M ∧ ∀ k ∈ M, Rg lo w.heap.size l' k := by
  have hp := h.pre l' hl hG hB
  refine (hc hp).mono fun v w' ⟨hv, ts', p⟩ => ⟨hv, TL.post p rfl hlo hl2 hp.t⟩
theorem TL.lt {w : World} {B lo hi : Nat} {l : List Nat} {bt : Nat} {vt : Value} {L : List (List Nat)} (h : TL w B lo hi l bt vt L) : bt < w.heap.size ∧ lo ≤ bt ∧ bt ∉ l := by
  have hr := h.arg.2.hi
  exact ⟨Nat.lt_of_lt_of_le hr.2.1 h.top, hr.1, hr.2.2⟩
/-- A new tape. -/
theorem TL.new {w : World} {B lo bt : Nat} (hb : Blk w bt [.slice none 0 0] 37) (hB : B ≤ bt) (hlo : lo ≤ bt) : TL w B lo (bt + 1) [] bt (.slice none 0 0) [] :=
  ⟨(tape_new hb hB).mono fun k hk => by subst hk; exact ⟨hlo, by omega, by simp⟩, hb.lt⟩
/-- The law's hashes, noted. -/
theorem TL.noted {w : World} {B lo hi : Nat} {l : List Nat} {bt : Nat} {vt : Value} {L : List (List Nat)} {bss : List (List Nat)} {a : Option Addr} {n c : Nat} (h : TL w B lo hi l bt vt L) (l' : List Nat) (hl : ∀ x ∈ l', x ∈ l ∨ hi ≤ x) (hl2 : ∀ x ∈ l', x < w.heap.size) (hlo : lo ≤ w.heap.size) (hG : GH B w) (hB : B ≤ w.heap.size)
    (hP : Parts w a n c bss) (hL : Sp.light bss = true) (hPk : ∀ W, Chg w W (foot (some (bt, vt, L))) → Parts W a n c bss) (htl : L.length + n ≤ 1073741824) :
    CallsR Tryd.prog 19 #[.pointer (some ⟨bt, 0, none⟩), .slice a n c] w fun v w' => w'.ownsRow w.heap.size 28 32 v n (natsC .u8 (bss.map Sp.leaf).flatten) ∧
      ∃ M vt', TL w' B lo w'.heap.size (v.ownBlock.toList ++ l') bt vt' (L ++ bss.map (0 :: ·)) ∧ Chg w w' M ∧ ∀ k ∈ M, Rg lo w.heap.size l' k := by
  have hp := h.pre l' hl hG hB
  refine (noted_calls B _ _ _ bss a n c w hp hP hL hPk (by simpa [TS.len] using htl)).mono ?_
  rintro v w' ⟨hown, hX, A', ts', hT, hno⟩
  have hs := hX.size
  obtain ⟨vt', rfl⟩ := hT.notes
  refine ⟨hown, _, vt', ⟨hT.arg.mono fun k hk => ?_, Nat.le_refl _⟩, hX, fun k hk => hp.t.foot_hi k hk⟩
  have hv : k ∉ v.ownBlock.toList := fun hm => hno k (by simpa using hm) hk
  rcases hT.sub k hk with h1 | h1
  · exact ⟨h1.1, Nat.lt_of_lt_of_le h1.2.1 hs, by simp only [List.mem_append, not_or]; exact ⟨hv, h1.2.2⟩⟩
  · exact ⟨Nat.le_trans hlo h1.1, h1.2, by simp only [List.mem_append, not_or]; exact ⟨hv, fun hm => by have := hl2 k hm; omega⟩⟩
/-- A copy of a tape's facts for Clash. -/
theorem TL.tape {w : World} {B lo hi : Nat} {l : List Nat} {bt : Nat} {vt : Value} {L : List (List Nat)} (h : TL w B lo hi l bt vt L) : TapeR w B (Rg lo hi l) bt vt L := h.arg.2
/-- What a slice of hashes lies in is none of the tape's. -/
def OffT (lo : Nat) (l : List Nat) (a : Option Addr) (_ : Nat) : Prop := ∀ p, a = some p → p.block < lo ∨ p.block ∈ l
theorem TL.root {w : World} {B lo hi : Nat} {l : List Nat} {bt : Nat} {vt : Value} {L : List (List Nat)} (h : TL w B lo hi l bt vt L) (l' : List Nat) (hl : ∀ x ∈ l', x ∈ l ∨ hi ≤ x) (hl2 : ∀ x ∈ l', x < w.heap.size) (hlo : lo ≤ w.heap.size) (hG : GH B w) (hB : B ≤ w.heap.size)
    {a : Option Addr} {n c : Nat} {hs : List (List Nat)} (hH : HsR w a n c hs) (ho : OffT lo l' a n) (hn : n ≤ 1048576) (htl : L.length + n ≤ 1073741824) :
    CallsR Tryd.prog 15 #[.pointer (some ⟨bt, 0, none⟩), .slice a n c] w fun v w' => v = hv (Sp.root hs) ∧ ∃ M vt', TL w' B lo w'.heap.size l' bt vt' (L ++ Sp.notes hs) ∧ Chg w w' M ∧ ∀ k ∈ M, Rg lo w.heap.size l' k :=
  h.call (R := fun v => v = hv (Sp.root hs)) l' hl hl2 hlo hG hB fun hp => root_calls _ hs (Nat.le_refl _) B _ _ _ a n c w hp hH (fun p hp' hm => by
    have h1 := hp.t.foot_hi _ hm
    rcases ho p hp' with h2 | h2
    · have := h1.1; omega
    · exact h1.2.2 h2) hn (by simpa [TS.len] using htl)
theorem TL.leaf {w : World} {B lo hi : Nat} {l : List Nat} {bt : Nat} {vt : Value} {L : List (List Nat)} (h : TL w B lo hi l bt vt L) (l' : List Nat) (hl : ∀ x ∈ l', x ∈ l ∨ hi ≤ x) (hl2 : ∀ x ∈ l', x < w.heap.size) (hlo : lo ≤ w.heap.size) (hG : GH B w) (hB : B ≤ w.heap.size)
    {a : Option Addr} {n c : Nat} {b : List Nat} (hb : Bytes w a n c b) (hbl : ∀ x ∈ b, x < 256) (hn : n ≤ 1099511627000) (htl : L.length ≤ 1073741824) :
    CallsR Tryd.prog 18 #[.pointer (some ⟨bt, 0, none⟩), .slice a n c] w fun v w' => v = hv (Sp.leaf b) ∧ ∃ M vt', TL w' B lo w'.heap.size l' bt vt' (L ++ [0 :: b]) ∧ Chg w w' M ∧ ∀ k ∈ M, Rg lo w.heap.size l' k :=
  h.call (R := fun v => v = hv (Sp.leaf b)) l' hl hl2 hlo hG hB fun hp => leaf_calls B _ _ _ b a n c w hG hB hb hbl hn hp.t hp.a (by simpa [TS.len] using htl)
theorem TL.climb {w : World} {B lo hi : Nat} {l : List Nat} {bt : Nat} {vt : Value} {L : List (List Nat)} (h : TL w B lo hi l bt vt L) (l' : List Nat) (hl : ∀ x ∈ l', x ∈ l ∨ hi ≤ x) (hl2 : ∀ x ∈ l', x < w.heap.size) (hlo : lo ≤ w.heap.size) (hG : GH B w) (hB : B ≤ w.heap.size)
    {a : Option Addr} {i n np cp : Nat} {leaf : List Nat} {path : List (List Nat)} (hlf : HOk leaf) (hH : HsR w a np cp path) (ho : OffT lo l' a np) (hlb : ∀ p, a = some p → 0 < np → p.block < w.heap.size) (hn : n ≤ 1048576) (hnp : np ≤ 1048576) (hi : i < n) (htl : L.length + np ≤ 1073741824) :
    CallsR Tryd.prog 23 #[.pointer (some ⟨bt, 0, none⟩), hv leaf, .int .i64 (i : Int), .int .i64 (n : Int), .slice a np cp] w fun v w' => v = .tuple #[hv (Sp.climb leaf i n path).1, .bool (Sp.climb leaf i n path).2] ∧ ∃ M vt', TL w' B lo w'.heap.size l' bt vt' (L ++ Sp.climbN leaf i n path) ∧ Chg w w' M ∧ ∀ k ∈ M, Rg lo w.heap.size l' k :=
  h.call (R := fun v => v = .tuple #[hv (Sp.climb leaf i n path).1, .bool (Sp.climb leaf i n path).2]) l' hl hl2 hlo hG hB fun hp => climb_calls _ path (Nat.le_refl _) B _ _ _ leaf i n a np cp w hp hlf hH (fun p hp' hm => by
    have h1 := hp.t.foot_hi _ hm
    rcases ho p hp' with h2 | h2
    · have := h1.1; omega
    · exact h1.2.2 h2) hlb hn hnp hi (by simpa [TS.len] using htl)
theorem TL.clash {w : World} {B lo hi : Nat} {l : List Nat} {bt : Nat} {vt : Value} {L : List (List Nat)} (h : TL w B lo hi l bt vt L) (hG : GH B w) (hB : B ≤ w.heap.size) (hxn : ∀ x ∈ L, x.length ≤ 1099511627776) :
    CallsR Tryd.prog 20 #[.pointer (some ⟨bt, 0, none⟩)] w fun v w' => ∃ b, v = .bool b ∧ (b = true ↔ Sp.Clash L) ∧ Chg w w' [] :=
  clash_calls B _ bt vt L w hG hB h.tape (fun k hk => Nat.lt_of_lt_of_le hk.2.1 h.top) hxn
/-- Notes are short. -/
theorem root_len (hs : List (List Nat)) (ok : ∀ x ∈ hs, HOk x) : (Sp.root hs).length = 32 := (root_ok _ _ (Nat.le_refl _) ok).1
theorem notes_short : ∀ (m : Nat) (hs : List (List Nat)), hs.length ≤ m → (∀ x ∈ hs, HOk x) → ∀ x ∈ Sp.notes hs, x.length ≤ 65 := by
  intro m
  induction m with
  | zero => intro hs h _ x hx; rw [List.eq_nil_of_length_eq_zero (show hs.length = 0 by omega), Sp.notes_nil] at hx; simp at hx; subst hx; simp
  | succ m ih =>
    intro hs h ok x hx
    by_cases h2 : 2 ≤ hs.length
    · have hk0 := Sp.split_pos hs.length
      have hk1 := Sp.split_lt h2
      have o1 : ∀ e ∈ hs.take (Sp.split hs.length), HOk e := fun e he => ok e (List.mem_of_mem_take he)
      have o2 : ∀ e ∈ hs.drop (Sp.split hs.length), HOk e := fun e he => ok e (List.mem_of_mem_drop he)
      rw [Sp.notes_two hs h2] at hx
      simp only [List.mem_append, List.mem_singleton] at hx
      rcases hx with (hx | hx) | rfl
      · exact ih _ (by rw [List.length_take]; omega) o1 x hx
      · exact ih _ (by rw [List.length_drop]; omega) o2 x hx
      · have := root_len _ o1; have := root_len _ o2; simp; omega
    · match hs, h2, hx with
      | [], _, hx => rw [Sp.notes_nil] at hx; simp at hx; subst hx; simp
      | [_], _, hx => rw [Sp.notes_one] at hx; simp at hx
      | _ :: _ :: _, h2, _ => simp at h2
theorem leaves_short {bss : List (List Nat)} (h : ∀ b ∈ bss, b.length ≤ 100) : ∀ x ∈ bss.map (0 :: ·), x.length ≤ 101 := by
  intro x hx
  obtain ⟨b, hb, rfl⟩ := List.mem_map.1 hx
  have := h b hb; simp; omega
theorem leaves_ok (bss : List (List Nat)) : ∀ x ∈ bss.map Sp.leaf, HOk x := by
  intro x hx
  obtain ⟨b, hb, rfl⟩ := List.mem_map.1 hx
  exact leaf_ok _
theorem set_same {α : Type} {l : List α} {i : Nat} {x : α} (h : l[i]? = some x) : l.set i x = l := by
  obtain ⟨hi, e⟩ := List.getElem?_eq_some_iff.1 h
  subst e
  exact List.set_getElem_self hi
end Go.Proofs.YtecpedpfkdnfhaaDoor
