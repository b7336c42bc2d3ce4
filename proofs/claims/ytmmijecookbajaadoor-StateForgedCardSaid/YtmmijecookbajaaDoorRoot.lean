/- history.Root answers as the specification says and notes what it hashed. Conditions: none beyond those in the theorems. By an AI agent. -/
import Derived.Test.YtmmijecookbajaaDoorHist
namespace Go.Proofs.YtmmijecookbajaaDoor
open Go Go.RowKit

/-- A slice of hashes. -/
structure HsR (w : World) (a : Option Addr) (n c : Nat) (hs : List (List Nat)) : Prop where
  rd : SlR w 32 a n c (natsC .u8 hs.flatten)
  len : hs.length = n
  ok : ∀ h ∈ hs, HOk h
theorem HsR.keep {w w' : World} {a : Option Addr} {n c : Nat} {hs : List (List Nat)} {M : List Nat} (h : HsR w a n c hs) (x : Chg w w' M) (hn : ∀ p, a = some p → p.block ∉ M) : HsR w' a n c hs := ⟨h.rd.keep x hn, h.len, h.ok⟩
theorem HsR.keep0 {w w' : World} {a : Option Addr} {n c : Nat} {hs : List (List Nat)} (h : HsR w a n c hs) (x : Chg w w' []) : HsR w' a n c hs := h.keep x (by simp)
theorem flat32 {hs : List (List Nat)} (h : ∀ x ∈ hs, HOk x) : hs.flatten.length = hs.length * 32 := by
  induction hs with
  | nil => rfl
  | cons x hs ih =>
    have := (h x (by simp)).1
    have ih := ih (fun y hy => h y (by simp [hy]))
    simp only [List.flatten_cons, List.length_append, List.length_cons]; omega
theorem flat_take32 {hs : List (List Nat)} (h : ∀ x ∈ hs, HOk x) (k : Nat) : hs.flatten.take (k * 32) = (hs.take k).flatten := by
  induction hs generalizing k with
  | nil => simp
  | cons x hs ih =>
    have hx := (h x (by simp)).1
    cases k with
    | zero => simp
    | succ k =>
      have ih := ih (fun y hy => h y (by simp [hy])) k
      simp only [List.flatten_cons, List.take_succ_cons]
      rw [List.take_append, List.take_of_length_le (by omega), show (k + 1) * 32 - x.length = k * 32 by omega, ih]
theorem flat_drop32 {hs : List (List Nat)} (h : ∀ x ∈ hs, HOk x) (k : Nat) : hs.flatten.drop (k * 32) = (hs.drop k).flatten := by
  induction hs generalizing k with
  | nil => simp
  | cons x hs ih =>
    have hx := (h x (by simp)).1
    cases k with
    | zero => simp
    | succ k =>
      have ih := ih (fun y hy => h y (by simp [hy])) k
      simp only [List.flatten_cons, List.drop_succ_cons]
      rw [List.drop_append, List.drop_eq_nil_of_le (by omega), List.nil_append, show (k + 1) * 32 - x.length = k * 32 by omega, ih]
theorem HsR.to_ {w : World} {a : Option Addr} {n c : Nat} {hs : List (List Nat)} (h : HsR w a n c hs) (k : Nat) (hk : k ≤ n) : HsR w a k c (hs.take k) := by
  have := h.rd.to_ k hk
  rw [← natsC_take, flat_take32 h.ok] at this
  exact ⟨this, by rw [List.length_take, h.len]; omega, fun x hx => h.ok x (List.mem_of_mem_take hx)⟩
theorem HsR.from_ {w : World} {a : Option Addr} {n c : Nat} {hs : List (List Nat)} (h : HsR w a n c hs) (k : Nat) (hk : k ≤ n) : HsR w (cutA a c k 32) (n - k) (c - k) (hs.drop k) := by
  have := h.rd.from_ k hk
  rw [← natsC_drop, flat_drop32 h.ok] at this
  exact ⟨this, by rw [List.length_drop, h.len], fun x hx => h.ok x (List.mem_of_mem_drop hx)⟩
theorem HsR.elem {w : World} {b o : Nat} {n c : Nat} {hs : List (List Nat)} (h : HsR w (some ⟨b, o, none⟩) n c hs) {i : Nat} {x : List Nat} (hx : hs[i]? = some x) : At w b (o + i * 32) (natsC .u8 x) := by
  have := h.rd.elem i
  have hi : i < hs.length := (List.getElem?_eq_some_iff.1 hx).1
  rw [← natsC_drop, flat_drop32 h.ok, ← natsC_take] at this
  have e : (hs.drop i).flatten.take 32 = x := by
    rw [List.drop_eq_getElem_cons hi, List.flatten_cons]
    have hxe : hs[i] = x := by rw [List.getElem?_eq_getElem hi] at hx; exact Option.some.inj hx
    have := (h.ok _ (List.getElem_mem hi)).1
    rw [List.take_append, List.take_of_length_le (by omega), show 32 - hs[i].length = 0 by omega, List.take_zero, List.append_nil, hxe]
  rwa [e] at this
theorem cutA_block {a : Option Addr} {c l size : Nat} {p : Addr} (h : cutA a c l size = some p) : ∃ q, a = some q ∧ q.block = p.block := by
  unfold cutA at h
  split at h
  · exact ⟨p, h, rfl⟩
  · cases a with
    | none => cases h
    | some q => simp at h; subst h; exact ⟨q, rfl, by unfold Addr.add; split <;> rfl⟩
theorem HsR.lt {w : World} {a : Option Addr} {n c : Nat} {hs : List (List Nat)} (h : HsR w a n c hs) (hn : 0 < n) : ∀ p, a = some p → p.block < w.heap.size := by
  intro p hp
  obtain ⟨b, o, rfl⟩ := h.rd.some_ hn
  cases hp
  have hl := h.len
  obtain ⟨x, hx⟩ : ∃ x, hs[0]? = some x := ⟨_, List.getElem?_eq_getElem (by omega)⟩
  have hat := h.elem hx
  have hx32 := (h.ok x (List.mem_of_getElem? hx)).1
  obtain ⟨y, hy⟩ : ∃ y, x[0]? = some y := ⟨_, List.getElem?_eq_getElem (by omega)⟩
  exact World.block_lt_of_cell? w _ (hat 0 _ (natsC_get hy))

/-- What is asked of a call on a tape and hashes. -/
structure Pre (B : Nat) (A : Nat → Prop) (tv : Value) (ts : TS) (w : World) : Prop where
  g : GH B w
  bw : B ≤ w.heap.size
  t : TArg w B A tv ts
  a : ∀ k, A k → k < w.heap.size
theorem Pre.keep {B : Nat} {A : Nat → Prop} {tv : Value} {ts : TS} {w w' : World} {M : List Nat} (h : Pre B A tv ts w) (x : Chg w w' M) (hM : ∀ k ∈ M, B ≤ k ∧ ¬ A k) : Pre B A tv ts w' := by
  have := x.size
  have hb := h.bw
  exact ⟨h.g.keep x (fun k hk => (hM k hk).1), by omega, h.t.keep x (fun k hk => (hM k hk).2), fun k hk => by have := h.a k hk; omega⟩
theorem Pre.keep0 {B : Nat} {A : Nat → Prop} {tv : Value} {ts : TS} {w w' : World} (h : Pre B A tv ts w) (x : Chg w w' []) : Pre B A tv ts w' := h.keep x (by simp)
theorem Pre.after {B : Nat} {A : Nat → Prop} {tv : Value} {ts ts' : TS} {w w' : World} {L : List (List Nat)} (h : Pre B A tv ts w) (p : TPost w w' B A tv ts ts' L) : Pre B (Adds A w.heap.size w'.heap.size) tv ts' w' := by
  have := p.chg.size
  have hb := h.bw
  exact ⟨h.g.keep p.chg (fun k hk => h.t.foot_lo k hk), by omega, p.arg, fun k hk => hk.elim (fun hk => by have := h.a k hk; omega) (fun hk => hk.2)⟩
theorem root_ok (m : Nat) : ∀ hs : List (List Nat), hs.length ≤ m → (∀ h ∈ hs, HOk h) → HOk (Sp.root hs) := by
  induction m with
  | zero => intro hs h _; rw [List.eq_nil_of_length_eq_zero (show hs.length = 0 by omega)]; exact sha_ok _
  | succ m ih =>
    intro hs h hok
    by_cases h2 : 2 ≤ hs.length
    · rw [Sp.root_two hs h2]; exact sha_ok _
    · match hs, h2, hok with
      | [], _, _ => exact sha_ok _
      | [x], _, hok => exact hok x (by simp)
      | _ :: _ :: _, h2, _ => simp at h2
theorem node_ok (a b : List Nat) : HOk (Sp.node a b) := sha_ok _
theorem leaf_ok (a : List Nat) : HOk (Sp.leaf a) := sha_ok _
theorem parts_nil (w : World) : Parts w none 0 0 [] := ⟨⟨[], SlR.nil_ _ _, rfl, fun i v bs hv => by simp at hv⟩⟩

end Go.Proofs.YtmmijecookbajaaDoor
