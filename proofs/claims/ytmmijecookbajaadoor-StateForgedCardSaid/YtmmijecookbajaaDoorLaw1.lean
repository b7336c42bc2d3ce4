/- Part Law1 of the proofs on this seat. Conditions: none beyond those in the theorems. By an AI agent. -/
import Derived.Test.YtmmijecookbajaaDoorOrd0
namespace Go.Proofs.YtmmijecookbajaaDoor
open Go Go.RowKit

/-- Blocks from lo to hi, but for a few. -/
def Rg (lo hi : Nat) (l : List Nat) (k : Nat) : Prop := lo ≤ k ∧ k < hi ∧ k ∉ l
/-- A tape, or none: its blocks lie in a range, none of them among these. -/
structure TG (w : World) (B lo hi : Nat) (l : List Nat) (tv : Value) (ts : TS) : Prop where
  arg : TArg w B (Rg lo hi l) tv ts
  top : hi ≤ w.heap.size
theorem TG.keep {w w' : World} {B lo hi : Nat} {l : List Nat} {tv : Value} {ts : TS} {M : List Nat} (h : TG w B lo hi l tv ts) (x : Chg w w' M) (hM : ∀ k ∈ M, ¬ Rg lo hi l k) : TG w' B lo hi l tv ts :=
  ⟨h.arg.keep x hM, Nat.le_trans h.top x.size⟩
theorem TG.keep0 {w w' : World} {B lo hi : Nat} {l : List Nat} {tv : Value} {ts : TS} (h : TG w B lo hi l tv ts) (x : Chg w w' []) : TG w' B lo hi l tv ts := h.keep x (by simp)
theorem TG.foot {w : World} {B lo hi : Nat} {l : List Nat} {tv : Value} {ts : TS} (h : TG w B lo hi l tv ts) : ∀ k ∈ foot ts, Rg lo hi l k := h.arg.foot_hi
/-- The range goes up to where memory ends; other blocks are set apart. -/
theorem TG.set {w : World} {B lo hi : Nat} {l : List Nat} {tv : Value} {ts : TS} (h : TG w B lo hi l tv ts) (l' : List Nat) (hl : ∀ x ∈ l', x ∈ l ∨ hi ≤ x) : TG w B lo w.heap.size l' tv ts :=
  ⟨h.arg.mono fun k hk => ⟨hk.1, Nat.lt_of_lt_of_le hk.2.1 h.top, fun hm => (hl k hm).elim hk.2.2 (fun h' => by have := hk.2.1; omega)⟩, Nat.le_refl _⟩
theorem TG.pre {w : World} {B lo : Nat} {l : List Nat} {tv : Value} {ts : TS} (h : TG w B lo w.heap.size l tv ts) (hG : GH B w) (hB : B ≤ w.heap.size) : Pre B (Rg lo w.heap.size l) tv ts w :=
  ⟨hG, hB, h.arg, fun _ hk => hk.2.1⟩
/-- What a call leaves that notes L on the tape. -/
structure TP (w w' : World) (B lo : Nat) (l : List Nat) (tv : Value) (ts ts' : TS) (L : List (List Nat)) : Prop where
  tg : TG w' B lo w'.heap.size l tv ts'
  notes : Notes L ts ts'
  chg : Chg w w' (foot ts)
  foot : ∀ k ∈ foot ts', k ∈ foot ts ∨ w.heap.size ≤ k
theorem TP.of {w w' : World} {B lo : Nat} {l : List Nat} {tv : Value} {ts ts' : TS} {L : List (List Nat)} (p : TPost w w' B (Rg lo w.heap.size l) tv ts ts' L) (hlo : lo ≤ w.heap.size) (hl : ∀ x ∈ l, x < w.heap.size) : TP w w' B lo l tv ts ts' L := by
  have hs := p.chg.size
  refine ⟨⟨p.arg.mono fun k hk => ?_, Nat.le_refl _⟩, p.notes, p.chg, p.foot⟩
  rcases hk with hk | hk
  · exact ⟨hk.1, Nat.lt_of_lt_of_le hk.2.1 hs, hk.2.2⟩
  · exact ⟨Nat.le_trans hlo hk.1, hk.2, fun hm => by have := hl k hm; omega⟩
section
variable {w : World} {B lo : Nat} {l : List Nat} {tv : Value} {ts : TS}
theorem TG.of (h : TG w B lo w.heap.size l tv ts) (hG : GH B w) (hB : B ≤ w.heap.size) (hlo : lo ≤ w.heap.size) (hl : ∀ x ∈ l, x < w.heap.size) {a : Option Addr} {n c : Nat} {bss : List (List Nat)} (hP : Parts w a n c bss) (hd : bss.flatten.length ≤ 1099511627776) (htl : ts.len ≤ 1073741824) :
    CallsR Tryd.prog 18 #[tv, .slice a n c] w fun v w' => v = hv (Sp.sha bss.flatten) ∧ ∃ ts', TP w w' B lo l tv ts ts' [bss.flatten] :=
  (of_calls B _ tv ts bss a n c w hG.sha hB hP hd h.arg (fun _ hk => hk.2.1) htl).mono fun _ _ ⟨e, ts', p⟩ => ⟨e, ts', TP.of p hlo hl⟩
end
/-- No tape. -/
theorem TG.none_ (w : World) (B lo : Nat) (l : List Nat) : TG w B lo w.heap.size l (.pointer none) none := ⟨rfl, Nat.le_refl _⟩

/-- A tape of the law's own: its blocks lie in a range, none of them among these. -/
structure TL (w : World) (B lo hi : Nat) (l : List Nat) (bt : Nat) (vt : Value) (L : List (List Nat)) : Prop where
  arg : TArg w B (Rg lo hi l) (.pointer (some ⟨bt, 0, none⟩)) (some (bt, vt, L))
  top : hi ≤ w.heap.size
  base : lo ≤ hi
  lt : ∀ x ∈ l, x < w.heap.size
theorem TL.keep {w w' : World} {B lo hi : Nat} {l : List Nat} {bt : Nat} {vt : Value} {L : List (List Nat)} {M : List Nat} (h : TL w B lo hi l bt vt L) (x : Chg w w' M) (hM : ∀ k ∈ M, ¬ Rg lo hi l k) : TL w' B lo hi l bt vt L :=
  ⟨h.arg.keep x hM, Nat.le_trans h.top x.size, h.base, fun y hy => Nat.lt_of_lt_of_le (h.lt y hy) x.size⟩
theorem TL.keep0 {w w' : World} {B lo hi : Nat} {l : List Nat} {bt : Nat} {vt : Value} {L : List (List Nat)} (h : TL w B lo hi l bt vt L) (x : Chg w w' []) : TL w' B lo hi l bt vt L := h.keep x (by simp)
theorem TL.tg {w : World} {B lo hi : Nat} {l : List Nat} {bt : Nat} {vt : Value} {L : List (List Nat)} (h : TL w B lo hi l bt vt L) : TG w B lo hi l (.pointer (some ⟨bt, 0, none⟩)) (some (bt, vt, L)) := ⟨h.arg, h.top⟩
theorem TL.ft {w : World} {B lo hi : Nat} {l : List Nat} {bt : Nat} {vt : Value} {L : List (List Nat)} (h : TL w B lo hi l bt vt L) : ∀ k ∈ foot (some (bt, vt, L)), Rg lo hi l k := h.arg.foot_hi
/-- Other blocks are set apart: new ones, and some of those that were. -/
theorem TL.set {w : World} {B lo hi : Nat} {l : List Nat} {bt : Nat} {vt : Value} {L : List (List Nat)} (h : TL w B lo hi l bt vt L) (l' : List Nat) (hl : ∀ x ∈ l', x ∈ l ∨ (hi ≤ x ∧ x < w.heap.size)) : TL w B lo w.heap.size l' bt vt L :=
  ⟨(h.tg.set l' (fun x hx => (hl x hx).imp id (·.1))).arg, Nat.le_refl _, Nat.le_trans h.base h.top, fun x hx => (hl x hx).elim (h.lt x) (·.2)⟩
theorem TL.add {w : World} {B lo hi : Nat} {l : List Nat} {bt : Nat} {vt : Value} {L : List (List Nat)} (h : TL w B lo hi l bt vt L) (ns : List Nat) (hns : ∀ x ∈ ns, hi ≤ x ∧ x < w.heap.size) : TL w B lo w.heap.size (ns ++ l) bt vt L :=
  h.set _ fun x hx => (List.mem_append.1 hx).elim (fun h' => .inr (hns x h')) .inl
/-- Behind a call. -/
structure TC (w w' : World) (B lo : Nat) (l : List Nat) (bt : Nat) (vt vt' : Value) (L L1 : List (List Nat)) : Prop where
  tl : TL w' B lo w'.heap.size l bt vt' (L ++ L1)
  chg : Chg w w' (foot (some (bt, vt, L)))
  ft : ∀ k ∈ foot (some (bt, vt, L)), Rg lo w.heap.size l k
  new : ∀ k ∈ foot (some (bt, vt', L ++ L1)), k ∈ foot (some (bt, vt, L)) ∨ w.heap.size ≤ k
theorem TL.after {w w' : World} {B lo : Nat} {l : List Nat} {bt : Nat} {vt : Value} {L L1 : List (List Nat)} {ts' : TS} (h : TL w B lo w.heap.size l bt vt L) (p : TP w w' B lo l (.pointer (some ⟨bt, 0, none⟩)) (some (bt, vt, L)) ts' L1) : ∃ vt', TC w w' B lo l bt vt vt' L L1 := by
  obtain ⟨vt', rfl⟩ := p.notes
  have hs := p.chg.size
  exact ⟨vt', ⟨p.tg.arg, p.tg.top, Nat.le_trans h.base hs, fun x hx => Nat.lt_of_lt_of_le (h.lt x hx) hs⟩, p.chg, h.ft, p.foot⟩
theorem TL.call {w : World} {B lo hi : Nat} {l : List Nat} {bt : Nat} {vt : Value} {L L1 : List (List Nat)} {f : FuncId} {args : Array Value} {R : Value → Prop} (h : TL w B lo hi l bt vt L) (ns : List Nat) (hns : ∀ x ∈ ns, hi ≤ x ∧ x < w.heap.size) (hG : GH B w) (hB : B ≤ w.heap.size)
    (hc : Pre B (Rg lo w.heap.size (ns ++ l)) (.pointer (some ⟨bt, 0, none⟩)) (some (bt, vt, L)) w → CallsR Tryd.prog f args w fun v w' => R v ∧ ∃ ts', TPost w w' B (Rg lo w.heap.size (ns ++ l)) (.pointer (some ⟨bt, 0, none⟩)) (some (bt, vt, L)) ts' L1) :
    CallsR Tryd.prog f args w fun v w' => R v ∧ ∃ vt', TC w w' B lo (ns ++ l) bt vt vt' L L1 := by
  have h1 := h.add ns hns
  refine (hc (h1.tg.pre hG hB)).mono fun v w' ⟨hv, ts', p⟩ => ⟨hv, h1.after (TP.of p h1.base h1.lt)⟩
theorem TL.inn {w : World} {B lo hi : Nat} {l : List Nat} {bt : Nat} {vt : Value} {L : List (List Nat)} (h : TL w B lo hi l bt vt L) : bt < w.heap.size ∧ lo ≤ bt ∧ bt ∉ l := by
  have hr := h.arg.2.hi
  exact ⟨Nat.lt_of_lt_of_le hr.2.1 h.top, hr.1, hr.2.2⟩
/-- A new tape. -/
theorem TL.new {w : World} {B lo bt : Nat} (hb : Blk w bt [.slice none 0 0] 53) (hB : B ≤ bt) (hlo : lo ≤ bt) : TL w B lo (bt + 1) [] bt (.slice none 0 0) [] :=
  ⟨(tape_new hb hB).mono fun k hk => by subst hk; exact ⟨hlo, by omega, by simp⟩, hb.lt, by omega, by simp⟩
/-- The tape's facts for Clash. -/
theorem TL.tape {w : World} {B lo hi : Nat} {l : List Nat} {bt : Nat} {vt : Value} {L : List (List Nat)} (h : TL w B lo hi l bt vt L) : TapeR w B (Rg lo hi l) bt vt L := h.arg.2
theorem TL.of {w : World} {B lo hi : Nat} {l : List Nat} {bt : Nat} {vt : Value} {L : List (List Nat)} (h : TL w B lo hi l bt vt L) (ns : List Nat) (hns : ∀ x ∈ ns, hi ≤ x ∧ x < w.heap.size) (hG : GH B w) (hB : B ≤ w.heap.size)
    {a : Option Addr} {n c : Nat} {bss : List (List Nat)} (hP : Parts w a n c bss) (hd : bss.flatten.length ≤ 1099511627776) (htl : L.length ≤ 1073741824) :
    CallsR Tryd.prog 18 #[.pointer (some ⟨bt, 0, none⟩), .slice a n c] w fun v w' => v = hv (Sp.sha bss.flatten) ∧ ∃ vt', TC w w' B lo (ns ++ l) bt vt vt' L [bss.flatten] :=
  h.call (R := fun v => v = hv (Sp.sha bss.flatten)) ns hns hG hB fun hp => of_calls B _ _ _ bss a n c w hG.sha hB hP hd hp.t hp.a (by simpa [TS.len] using htl)
theorem TL.clash {w : World} {B lo hi : Nat} {l : List Nat} {bt : Nat} {vt : Value} {L : List (List Nat)} (h : TL w B lo hi l bt vt L) (hG : GH B w) (hB : B ≤ w.heap.size) (hxn : ∀ x ∈ L, x.length ≤ 1099511627776) :
    CallsR Tryd.prog 20 #[.pointer (some ⟨bt, 0, none⟩)] w fun v w' => ∃ b, v = .bool b ∧ (b = true ↔ Sp.Clash L) ∧ Chg w w' [] :=
  clash_calls B _ bt vt L w hG hB h.tape (fun _ hk => Nat.lt_of_lt_of_le hk.2.1 h.top) hxn
/-- Notes are short. -/
theorem root_len (hs : List (List Nat)) (ok : ∀ x ∈ hs, HOk x) : (Sp.root hs).length = 32 := (root_ok _ _ (Nat.le_refl _) ok).1
theorem notes_short : ∀ (m : Nat) (hs : List (List Nat)), hs.length ≤ m → (∀ x ∈ hs, HOk x) → ∀ x ∈ Sp.notes hs, x.length ≤ 65 := by
  intro m
  induction m with
  | zero => intro hs h _ x hx; rw [List.eq_nil_of_length_eq_zero (show hs.length = 0 by omega), Sp.notes_nil] at hx; simp at hx; subst hx; simp
  | succ m ih =>
    intro hs h ok x hx
    by_cases h2 : 2 ≤ hs.length
    · have hk0 := Sp.split_pos hs.length
      have hk1 := Sp.split_lt h2
      have o1 : ∀ e ∈ hs.take (Sp.split hs.length), HOk e := fun e he => ok e (List.mem_of_mem_take he)
      have o2 : ∀ e ∈ hs.drop (Sp.split hs.length), HOk e := fun e he => ok e (List.mem_of_mem_drop he)
      rw [Sp.notes_two hs h2] at hx
      simp only [List.mem_append, List.mem_singleton] at hx
      rcases hx with (hx | hx) | rfl
      · exact ih _ (by rw [List.length_take]; omega) o1 x hx
      · exact ih _ (by rw [List.length_drop]; omega) o2 x hx
      · have := root_len _ o1; have := root_len _ o2; simp; omega
    · match hs, h2, hx with
      | [], _, hx => rw [Sp.notes_nil] at hx; simp at hx; subst hx; simp
      | [_], _, hx => rw [Sp.notes_one] at hx; simp at hx
      | _ :: _ :: _, h2, _ => simp at h2
theorem leaves_short {bss : List (List Nat)} (h : ∀ b ∈ bss, b.length ≤ 100) : ∀ x ∈ bss.map (0 :: ·), x.length ≤ 101 := by
  intro x hx
  obtain ⟨b, hb, rfl⟩ := List.mem_map.1 hx
  have := h b hb; simp; omega
theorem leaves_ok (bss : List (List Nat)) : ∀ x ∈ bss.map Sp.leaf, HOk x := by
  intro x hx
  obtain ⟨b, hb, rfl⟩ := List.mem_map.1 hx
  exact leaf_ok _
theorem set_same {α : Type} {l : List α} {i : Nat} {x : α} (h : l[i]? = some x) : l.set i x = l := by
  obtain ⟨hi, e⟩ := List.getElem?_eq_some_iff.1 h
  subst e
  exact List.set_getElem_self hi
end Go.Proofs.YtmmijecookbajaaDoor
