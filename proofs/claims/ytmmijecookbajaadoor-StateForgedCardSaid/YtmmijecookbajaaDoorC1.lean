/- What a step changes in memory, slices that can be read, and the rules of single operations on integers, pointers, cells and new memory. Conditions: none beyond those in the theorems. By an AI agent. -/
import Derived.Test.YtmmijecookbajaaDoorC0
import Derived.Below
import Derived.IntWalk
namespace Go.Proofs.YtmmijecookbajaaDoor
open Go Go.RowKit

def aggD : TypeDesc → Bool
  | .struct _ | .array _ _ => true
  | _ => false

/-- A type's row: is it made of parts; cells; bytes; its zero. -/
structure TI (P : Program) (t : TypeId) (agg : Bool) (size bytes : Nat) (zero : Value) : Prop where
  und : ∃ d, P.underlying t = some d ∧ aggD d = agg
  inf : ∃ i, P.info? t = some i ∧ i.size = size ∧ i.bytes = bytes ∧ i.zero = some zero

theorem TI.mk' {P : Program} {t : TypeId} {d : TypeDesc} {agg : Bool} {size bytes : Nat} {zero : Value} (h1 : P.underlying t = some d) (ha : aggD d = agg)
    (h2 : (P.info? t).map (fun i => (i.zero, i.size, i.bytes)) = some (some zero, size, bytes)) : TI P t agg size bytes zero := by
  obtain ⟨i, a, b, c, e⟩ := info_parts h2
  exact ⟨⟨d, h1, ha⟩, i, a, c, e, b⟩
theorem TI.run_isAgg {P : Program} {t : TypeId} {agg : Bool} {size bytes : Nat} {zero : Value} (T : TI P t agg size bytes zero) (w : World) : (isAgg t).run P w = .ok agg w := by
  obtain ⟨⟨d, hu, hd⟩, _⟩ := T
  unfold isAgg
  rw [Sem.run_bind, run_underlying hu w]
  cases d <;> simp_all [aggD]

/-- What a step has done to memory: of the blocks that were there those on the list M alone may have turned; blocks may have come. -/
structure Chg (w w' : World) (M : List Nat) : Prop where
  os : w'.os = w.os
  tape : w'.tape = w.tape
  output : w'.output = w.output
  size : w.heap.size ≤ w'.heap.size
  block : ∀ k, k < w.heap.size → k ∉ M → w'.heap[k]? = w.heap[k]?
theorem Chg.refl (w : World) (M : List Nat) : Chg w w M := ⟨rfl, rfl, rfl, Nat.le_refl _, fun _ _ _ => rfl⟩
theorem Chg.trans {a b c : World} {M M' : List Nat} (h : Chg a b M) (k : Chg b c M') : Chg a c (M ++ M') :=
  ⟨k.os.trans h.os, k.tape.trans h.tape, k.output.trans h.output, Nat.le_trans h.size k.size, fun i hi hn => by
    simp only [List.mem_append, not_or] at hn
    exact (k.block i (Nat.lt_of_lt_of_le hi h.size) hn.2).trans (h.block i hi hn.1)⟩
theorem Chg.mono {w w' : World} {M M' : List Nat} (h : Chg w w' M) (hs : ∀ k ∈ M, k < w.heap.size → k ∈ M') : Chg w w' M' :=
  ⟨h.os, h.tape, h.output, h.size, fun k hk hn => h.block k hk (fun hm => hn (hs k hm hk))⟩
theorem Chg.drew (w : World) : Chg w w.drew [] := ⟨rfl, rfl, rfl, Nat.le_refl _, fun _ _ _ => rfl⟩
theorem Chg.of_grown {w w' : World} {row : Option Nat} (h : w.grownBy w' row) : Chg w w' row.toList :=
  ⟨h.os, h.tape, h.output, h.size, fun k hk hn => h.block k hk (fun e => hn (by subst e; simp))⟩
theorem Chg.of_below {w w' : World} (h : Below w.heap.size w w') : Chg w w' [] := ⟨h.os, h.tape, h.output, h.size, fun k hk _ => h.block k hk⟩
theorem Below.chg {B : Nat} {w0 w w' : World} {M : List Nat} (h : Below B w0 w) (hs : B ≤ w.heap.size) (x : Chg w w' M) (hM : ∀ k ∈ M, B ≤ k) : Below B w0 w' :=
  h.trans ⟨x.os, x.tape, x.output, x.size, fun k hk => x.block k (by omega) (fun hm => by have := hM k hm; omega)⟩
theorem Chg.below {w w' : World} (h : Chg w w' []) : Below w.heap.size w w' := ⟨h.os, h.tape, h.output, h.size, fun k hk => h.block k hk (by simp)⟩

/-- The cells of block b from o on. -/
def At (w : World) (b o : Nat) (cs : List Value) : Prop := ∀ j v, cs[j]? = some v → w.cell? ⟨b, o + j, none⟩ = some v
/-- A block known whole. -/
def Blk (w : World) (b : Nat) (cs : List Value) (t : TypeId) : Prop := w.heap[b]? = some (.cells cs.toArray t (0, 0))

theorem add_lit (b o j : Nat) : (⟨b, o, none⟩ : Addr).add j = ⟨b, o + j, none⟩ := by unfold Addr.add; split <;> simp_all
theorem Blk.at {w : World} {b : Nat} {cs : List Value} {t : TypeId} (h : Blk w b cs t) : At w b 0 cs := fun j v hv => by
  simp [World.cell?, show w.heap[b]? = _ from h, hv]
theorem At.sub {w : World} {b o : Nat} {cs : List Value} (h : At w b o cs) (k m : Nat) : At w b (o + k) ((cs.drop k).take m) := fun j v hv => by
  rw [List.getElem?_take] at hv
  split at hv
  · rw [List.getElem?_drop] at hv
    rw [Nat.add_assoc]; exact h _ _ hv
  · cases hv
theorem Chg.cell {w w' : World} {M : List Nat} (x : Chg w w' M) {p : Addr} {v : Value} (h : w.cell? p = some v) (hn : p.block ∉ M) : w'.cell? p = some v :=
  (World.cell?_of_block (w := w) (x.block p.block (World.block_lt_of_cell? w p h) hn)).trans h
theorem At.keep {w w' : World} {M : List Nat} {b o : Nat} {cs : List Value} (h : At w b o cs) (x : Chg w w' M) (hn : b ∉ M) : At w' b o cs := fun j v hv => x.cell (h j v hv) hn
theorem At.below {B : Nat} {w w' : World} {b o : Nat} {cs : List Value} (h : At w b o cs) (hb : Below B w w') (hlt : b < B) : At w' b o cs := fun j v hv => by
  rw [hb.cell (p := ⟨b, o + j, none⟩) hlt]; exact h j v hv
theorem Blk.c1 {w : World} {b j : Nat} {cs : List Value} {t : TypeId} {v : Value} (h : Blk w b cs t) (hv : cs[j]? = some v) : w.cell? ⟨b, 0 + j * 1, none⟩ = some v := by
  rw [Nat.mul_one]; exact h.at j v hv
theorem Blk.lt {w : World} {b : Nat} {cs : List Value} {t : TypeId} (h : Blk w b cs t) : b < w.heap.size := (Array.getElem?_eq_some_iff.1 h).1
theorem Blk.keep {w w' : World} {M : List Nat} {b : Nat} {cs : List Value} {t : TypeId} (h : Blk w b cs t) (x : Chg w w' M) (hn : b ∉ M) : Blk w' b cs t := (x.block b h.lt hn).trans h
theorem Blk.below {B : Nat} {w w' : World} {b : Nat} {cs : List Value} {t : TypeId} (h : Blk w b cs t) (hb : Below B w w') (hlt : b < B) : Blk w' b cs t := (hb.block b hlt).trans h
theorem Blk.not_frozen {w : World} {b : Nat} {cs : List Value} {t : TypeId} (h : Blk w b cs t) (o : Nat) : w.frozen? ⟨b, o, none⟩ = false := by
  simp [World.frozen?, show w.heap[b]? = _ from h]

/-- A slice that can be read: n elements of 'size' cells each, the cells xs. -/
structure SlR (w : World) (size : Nat) (a : Option Addr) (n c : Nat) (xs : List Value) : Prop where
  len : xs.length = n * size
  le : n ≤ c
  mx : c ≤ maxLen
  cells : ∀ p, a = some p → (p.spot = none ∨ c = 0) ∧ At w p.block p.off xs
  nil : a = none → n = 0 ∧ c = 0
theorem SlR.keep {w w' : World} {M : List Nat} {size : Nat} {a : Option Addr} {n c : Nat} {xs : List Value} (h : SlR w size a n c xs) (x : Chg w w' M) (hn : ∀ p, a = some p → p.block ∉ M) : SlR w' size a n c xs :=
  ⟨h.len, h.le, h.mx, fun p hp => ⟨(h.cells p hp).1, (h.cells p hp).2.keep x (hn p hp)⟩, h.nil⟩
theorem SlR.grow {w w' : World} {size : Nat} {a : Option Addr} {n c : Nat} {xs : List Value} (h : SlR w size a n c xs) (x : Chg w w' []) : SlR w' size a n c xs := h.keep x (fun _ _ => by simp)
theorem SlR.below {B : Nat} {w w' : World} {size : Nat} {a : Option Addr} {n c : Nat} {xs : List Value} (h : SlR w size a n c xs) (hb : Below B w w') (hlt : ∀ p, a = some p → p.block < B) : SlR w' size a n c xs :=
  ⟨h.len, h.le, h.mx, fun p hp => ⟨(h.cells p hp).1, (h.cells p hp).2.below hb (hlt p hp)⟩, h.nil⟩
/-- Of no matter what there is no cell. -/
theorem SlR.nil_ (w : World) (size : Nat) : SlR w size none 0 0 [] := ⟨by simp, Nat.le_refl _, Nat.zero_le _, fun _ h => by (cases h), fun _ => ⟨rfl, rfl⟩⟩

section
variable {P : Program} {ρ : Env} {w : World} {ty : TypeId} {x y : Operand}

theorem runs_move {v : Value} (hx : ev? ρ x = some v) : Runs P ρ (.move x) ty w v w := fun ev h => by simp [execOp, h _ _ hx]
theorem runs_assign {v : Value} (hx : ev? ρ x = some v) : Runs P ρ (.assign x) ty w v w := fun ev h => by simp [execOp, h _ _ hx]
theorem runs_pickt {v : Value} {c : Operand} (hc : ev? ρ c = some (.bool true)) (hx : ev? ρ x = some v) : Runs P ρ (.pick c x y) ty w v w := fun ev h => by simp [execOp, h _ _ hx, h _ _ hc, asBool]
theorem runs_pickf {v : Value} {c : Operand} (hc : ev? ρ c = some (.bool false)) (hy : ev? ρ y = some v) : Runs P ρ (.pick c x y) ty w v w := fun ev h => by simp [execOp, h _ _ hy, h _ _ hc, asBool]

/-! integers -/
section
variable {k : IntKind} {a b : Int} {tx tyy : TypeId}
theorem runs_add (hx : ev? ρ x = some (.int k a)) (hy : ev? ρ y = some (.int k b)) : Runs P ρ (.binOp .add tx x y tyy) ty w (.int k (k.wrap (a + b))) w := fun ev h => by
  simp [execOp, h _ _ hx, h _ _ hy, eqGuard, binOp, Op.intArith]
theorem runs_sub (hx : ev? ρ x = some (.int k a)) (hy : ev? ρ y = some (.int k b)) : Runs P ρ (.binOp .sub tx x y tyy) ty w (.int k (k.wrap (a - b))) w := fun ev h => by
  simp [execOp, h _ _ hx, h _ _ hy, eqGuard, binOp, Op.intArith]
theorem runs_mul (hx : ev? ρ x = some (.int k a)) (hy : ev? ρ y = some (.int k b)) : Runs P ρ (.binOp .mul tx x y tyy) ty w (.int k (k.wrap (a * b))) w := fun ev h => by
  simp [execOp, h _ _ hx, h _ _ hy, eqGuard, binOp, Op.intArith]
theorem runs_as {v v' : Value} {op : Op} {w' : World} (h : Runs P ρ op ty w v w') (e : v = v') : Runs P ρ op ty w v' w' := e ▸ h
/-- a sum that fits: no wrap -/
theorem wrap_i64 {n : Int} (h1 : -9223372036854775808 ≤ n) (h2 : n ≤ 9223372036854775807) : IntKind.i64.wrap n = n := by
  have e : IntKind.i64.wrap n = if n % 18446744073709551616 ≥ 9223372036854775808 then n % 18446744073709551616 - 18446744073709551616 else n % 18446744073709551616 := by
    simp [IntKind.wrap, IntKind.bits, IntKind.signed]
  rw [e]
  split <;> omega
theorem wrap_u64 {n : Int} (h1 : 0 ≤ n) (h2 : n ≤ 18446744073709551615) : IntKind.u64.wrap n = n := by
  simp only [IntKind.wrap, IntKind.bits, IntKind.signed, Bool.false_and, Bool.false_eq_true, if_false]
  omega
theorem wrap_u32 (n : Int) : IntKind.u32.wrap n = n % 4294967296 := by
  simp [IntKind.wrap, IntKind.bits, IntKind.signed]
theorem wrap_u8 (n : Int) : IntKind.u8.wrap n = n % 256 := by
  simp [IntKind.wrap, IntKind.bits, IntKind.signed]
theorem runs_add64 (hx : ev? ρ x = some (.int .i64 a)) (hy : ev? ρ y = some (.int .i64 b)) (h : -9223372036854775808 ≤ a + b ∧ a + b ≤ 9223372036854775807) : Runs P ρ (.binOp .add tx x y tyy) ty w (.int .i64 (a + b)) w :=
  runs_as (runs_add hx hy) (by rw [wrap_i64 h.1 h.2])
theorem runs_sub64 (hx : ev? ρ x = some (.int .i64 a)) (hy : ev? ρ y = some (.int .i64 b)) (h : -9223372036854775808 ≤ a - b ∧ a - b ≤ 9223372036854775807) : Runs P ρ (.binOp .sub tx x y tyy) ty w (.int .i64 (a - b)) w :=
  runs_as (runs_sub hx hy) (by rw [wrap_i64 h.1 h.2])
theorem runs_mul64 (hx : ev? ρ x = some (.int .i64 a)) (hy : ev? ρ y = some (.int .i64 b)) (h : -9223372036854775808 ≤ a * b ∧ a * b ≤ 9223372036854775807) : Runs P ρ (.binOp .mul tx x y tyy) ty w (.int .i64 (a * b)) w :=
  runs_as (runs_mul hx hy) (by rw [wrap_i64 h.1 h.2])
theorem runs_quo (hx : ev? ρ x = some (.int k a)) (hy : ev? ρ y = some (.int k b)) (hb : b ≠ 0) : Runs P ρ (.binOp .quo tx x y tyy) ty w (.int k (k.wrap (a.tdiv b))) w := fun ev h => by
  simp [execOp, h _ _ hx, h _ _ hy, eqGuard, binOp, Op.intDiv, hb]
theorem runs_rem (hx : ev? ρ x = some (.int k a)) (hy : ev? ρ y = some (.int k b)) (hb : b ≠ 0) : Runs P ρ (.binOp .rem tx x y tyy) ty w (.int k (a.tmod b)) w := fun ev h => by
  simp [execOp, h _ _ hx, h _ _ hy, eqGuard, binOp, Op.intDiv, hb]
theorem runs_rem64 (hx : ev? ρ x = some (.int .i64 a)) (hy : ev? ρ y = some (.int .i64 b)) (ha : 0 ≤ a) (hb : 0 < b) : Runs P ρ (.binOp .rem tx x y tyy) ty w (.int .i64 (a % b)) w :=
  runs_as (runs_rem hx hy (by omega)) (by rw [Int.tmod_eq_emod_of_nonneg ha])
theorem runs_quo64 (hx : ev? ρ x = some (.int .i64 a)) (hy : ev? ρ y = some (.int .i64 b)) (ha : 0 ≤ a) (ha' : a ≤ 9223372036854775807) (hb : 0 < b) : Runs P ρ (.binOp .quo tx x y tyy) ty w (.int .i64 (a / b)) w :=
  runs_as (runs_quo hx hy (by omega)) (by
    rw [Int.tdiv_eq_ediv_of_nonneg ha, wrap_i64]
    · have := Int.ediv_nonneg ha (show (0:Int) ≤ b by omega); omega
    · have := Int.ediv_le_self b ha; omega)
theorem runs_bits {op : BinOp} {f : BitVec k.bits → BitVec k.bits → BitVec k.bits} (hx : ev? ρ x = some (.int k a)) (hy : ev? ρ y = some (.int k b))
    (hf : ∀ a b, Op.intBits op k a b = pure (.int k (k.wrap (f (BitVec.ofInt k.bits a) (BitVec.ofInt k.bits b)).toNat))) (ho : op = .and ∨ op = .or ∨ op = .xor ∨ op = .andNot) :
    Runs P ρ (.binOp op tx x y tyy) ty w (.int k (k.wrap (f (BitVec.ofInt k.bits a) (BitVec.ofInt k.bits b)).toNat)) w := fun ev h => by
  rcases ho with rfl | rfl | rfl | rfl <;> simp [execOp, h _ _ hx, h _ _ hy, eqGuard, binOp, hf]
theorem runs_and (hx : ev? ρ x = some (.int k a)) (hy : ev? ρ y = some (.int k b)) : Runs P ρ (.binOp .and tx x y tyy) ty w (.int k (k.wrap (BitVec.ofInt k.bits a &&& BitVec.ofInt k.bits b).toNat)) w :=
  runs_bits (f := (· &&& ·)) hx hy (fun _ _ => rfl) (by simp)
theorem runs_or (hx : ev? ρ x = some (.int k a)) (hy : ev? ρ y = some (.int k b)) : Runs P ρ (.binOp .or tx x y tyy) ty w (.int k (k.wrap (BitVec.ofInt k.bits a ||| BitVec.ofInt k.bits b).toNat)) w :=
  runs_bits (f := (· ||| ·)) hx hy (fun _ _ => rfl) (by simp)
theorem runs_xor (hx : ev? ρ x = some (.int k a)) (hy : ev? ρ y = some (.int k b)) : Runs P ρ (.binOp .xor tx x y tyy) ty w (.int k (k.wrap (BitVec.ofInt k.bits a ^^^ BitVec.ofInt k.bits b).toNat)) w :=
  runs_bits (f := (· ^^^ ·)) hx hy (fun _ _ => rfl) (by simp)
theorem runs_andNot (hx : ev? ρ x = some (.int k a)) (hy : ev? ρ y = some (.int k b)) : Runs P ρ (.binOp .andNot tx x y tyy) ty w (.int k (k.wrap (BitVec.ofInt k.bits a &&& ~~~ BitVec.ofInt k.bits b).toNat)) w :=
  runs_bits (f := fun p q => p &&& ~~~ q) hx hy (fun _ _ => rfl) (by simp)
theorem runs_shl {k' : IntKind} (hx : ev? ρ x = some (.int k a)) (hy : ev? ρ y = some (.int k' b)) (hb : 0 ≤ b) : Runs P ρ (.binOp .shl tx x y tyy) ty w (.int k (k.wrap (a * 2 ^ (min b.toNat k.bits)))) w := fun ev h => by
  simp [execOp, h _ _ hx, h _ _ hy, eqGuard, binOp, Op.shift, show ¬ b < 0 by omega]
theorem runs_shr {k' : IntKind} (hx : ev? ρ x = some (.int k a)) (hy : ev? ρ y = some (.int k' b)) (hb : 0 ≤ b) : Runs P ρ (.binOp .shr tx x y tyy) ty w (.int k (a.fdiv (2 ^ (min b.toNat k.bits)))) w := fun ev h => by
  simp [execOp, h _ _ hx, h _ _ hy, eqGuard, binOp, Op.shift, show ¬ b < 0 by omega]
theorem runs_eq (hx : ev? ρ x = some (.int k a)) (hy : ev? ρ y = some (.int k b)) : Runs P ρ (.binOp .eql tx x y tyy) ty w (.bool (a == b)) w := fun ev h => by
  simp [execOp, h _ _ hx, h _ _ hy, eqGuard, binOp, Op.intCmp]
theorem runs_ne (hx : ev? ρ x = some (.int k a)) (hy : ev? ρ y = some (.int k b)) : Runs P ρ (.binOp .neq tx x y tyy) ty w (.bool (a != b)) w := fun ev h => by
  simp [execOp, h _ _ hx, h _ _ hy, eqGuard, binOp, Op.intCmp]
theorem runs_eqd (hx : ev? ρ x = some (.int k a)) (hy : ev? ρ y = some (.int k b)) : Runs P ρ (.binOp .eql tx x y tyy) ty w (.bool (decide (a = b))) w :=
  runs_as (runs_eq hx hy) (by congr 1)
theorem runs_ned (hx : ev? ρ x = some (.int k a)) (hy : ev? ρ y = some (.int k b)) : Runs P ρ (.binOp .neq tx x y tyy) ty w (.bool (decide (a ≠ b))) w :=
  runs_as (runs_ne hx hy) (by congr 1; by_cases h : a = b <;> simp [h])
theorem runs_lt (hx : ev? ρ x = some (.int k a)) (hy : ev? ρ y = some (.int k b)) : Runs P ρ (.binOp .lss tx x y tyy) ty w (.bool (decide (a < b))) w := fun ev h => by
  simp [execOp, h _ _ hx, h _ _ hy, eqGuard, binOp, Op.intCmp]
theorem runs_le (hx : ev? ρ x = some (.int k a)) (hy : ev? ρ y = some (.int k b)) : Runs P ρ (.binOp .leq tx x y tyy) ty w (.bool (decide (a ≤ b))) w := fun ev h => by
  simp [execOp, h _ _ hx, h _ _ hy, eqGuard, binOp, Op.intCmp]
theorem runs_gt (hx : ev? ρ x = some (.int k a)) (hy : ev? ρ y = some (.int k b)) : Runs P ρ (.binOp .gtr tx x y tyy) ty w (.bool (decide (b < a))) w := fun ev h => by
  simp [execOp, h _ _ hx, h _ _ hy, eqGuard, binOp, Op.intCmp]
theorem runs_ge (hx : ev? ρ x = some (.int k a)) (hy : ev? ρ y = some (.int k b)) : Runs P ρ (.binOp .geq tx x y tyy) ty w (.bool (decide (b ≤ a))) w := fun ev h => by
  simp [execOp, h _ _ hx, h _ _ hy, eqGuard, binOp, Op.intCmp]
theorem runs_conv {k' : IntKind} {ts td : TypeId} {ds : TypeDesc} (hs : P.underlying ts = some ds) (hd : P.underlying td = some (.int k')) (hx : ev? ρ x = some (.int k a)) :
    Runs P ρ (.convert ts td x) ty w (.int k' (k'.wrap a)) w := fun ev h => by
  simp [execOp, h _ _ hx, convert, run_underlying hs, run_underlying hd, Conv.intToInt]
theorem runs_neg (hx : ev? ρ x = some (.int k a)) : Runs P ρ (.unOp .neg tx x) ty w (.int k (k.wrap (0 - a))) w := fun ev h => by
  simp [execOp, h _ _ hx, Op.unary, Op.intArith]
theorem runs_compl (hx : ev? ρ x = some (.int k a)) : Runs P ρ (.unOp .xor tx x) ty w (.int k (k.wrap (BitVec.ofInt k.bits (if k.signed then -1 else k.max) ^^^ BitVec.ofInt k.bits a).toNat)) w := fun ev h => by
  simp [execOp, h _ _ hx, Op.unary, Op.intBits]
theorem runs_not {t : Bool} (hx : ev? ρ x = some (.bool t)) : Runs P ρ (.unOp .not tx x) ty w (.bool (!t)) w := fun ev h => by
  simp [execOp, h _ _ hx, Op.unary]
end

theorem runs_dt {op : Op} {p : Prop} [Decidable p] {w' : World} (h : Runs P ρ op ty w (.bool (decide p)) w') (hp : p) : Runs P ρ op ty w (.bool true) w' := runs_as h (by rw [decide_eq_true hp])
theorem runs_df {op : Op} {p : Prop} [Decidable p] {w' : World} (h : Runs P ρ op ty w (.bool (decide p)) w') (hp : ¬ p) : Runs P ρ op ty w (.bool false) w' := runs_as h (by rw [decide_eq_false hp])
/-! pointers against nil -/
section
variable {tx tyy e : TypeId} {a : Addr}
theorem equalIn_ptr (d : Nat) (hu : P.underlying tx = some (.pointer e)) : (Op.equalIn (d + 1) tx (.pointer (some a)) (.pointer none)).run P w = .ok false w := by
  simp [Op.equalIn, run_underlying hu]
theorem equalIn_nil (d : Nat) (hu : P.underlying tx = some (.pointer e)) : (Op.equalIn (d + 1) tx (.pointer none) (.pointer none)).run P w = .ok true w := by
  simp [Op.equalIn, run_underlying hu]
theorem runs_ptr_ne_nil (hu : P.underlying tx = some (.pointer e)) (hx : ev? ρ x = some (.pointer (some a))) (hy : ev? ρ y = some (.pointer none)) :
    Runs P ρ (.binOp .neq tx x y tyy) ty w (.bool true) w := fun ev h => by
  have := equalIn_ptr (P := P) (w := w) (a := a) 9999 hu
  simp [execOp, h _ _ hx, h _ _ hy, eqGuard, binOp, Op.equal, Op.maxDepth, this]
theorem runs_nil_ne_nil (hu : P.underlying tx = some (.pointer e)) (hx : ev? ρ x = some (.pointer none)) (hy : ev? ρ y = some (.pointer none)) :
    Runs P ρ (.binOp .neq tx x y tyy) ty w (.bool false) w := fun ev h => by
  have := equalIn_nil (P := P) (w := w) 9999 hu
  simp [execOp, h _ _ hx, h _ _ hy, eqGuard, binOp, Op.equal, Op.maxDepth, this]
theorem runs_ptr_eq_nil (hu : P.underlying tx = some (.pointer e)) (hx : ev? ρ x = some (.pointer (some a))) (hy : ev? ρ y = some (.pointer none)) :
    Runs P ρ (.binOp .eql tx x y tyy) ty w (.bool false) w := fun ev h => by
  have := equalIn_ptr (P := P) (w := w) (a := a) 9999 hu
  simp [execOp, h _ _ hx, h _ _ hy, eqGuard, binOp, Op.equal, Op.maxDepth, this]
theorem runs_nil_eq_nil (hu : P.underlying tx = some (.pointer e)) (hx : ev? ρ x = some (.pointer none)) (hy : ev? ρ y = some (.pointer none)) :
    Runs P ρ (.binOp .eql tx x y tyy) ty w (.bool true) w := fun ev h => by
  have := equalIn_nil (P := P) (w := w) 9999 hu
  simp [execOp, h _ _ hx, h _ _ hy, eqGuard, binOp, Op.equal, Op.maxDepth, this]
end
theorem runs_nilCheck {a : Addr} (hx : ev? ρ x = some (.pointer (some a))) : Runs P ρ (.nilCheck x) ty w (.pointer (some a)) w := fun ev h => by
  simp [execOp, h _ _ hx]

/-! slices -/
section
variable {a : Option Addr} {n c : Nat} {t e : TypeId}
theorem runs_len_slice {tyy : TypeId} (hu : P.underlying t = some (.slice e)) (hx : ev? ρ x = some (.slice a n c)) :
    Runs P ρ (.call { callee := .builtin .len, args := #[x], argTypes := #[t] }) tyy w (.int .i64 n) w := fun ev h => by
  simp [execOp, resolve, invoke, builtin, h _ _ hx, Builtin.len_, run_underlying hu, goInt]
theorem runs_len_string {tyy : TypeId} {s : ByteArray} (hu : P.underlying t = some .string) (hx : ev? ρ x = some (.string s)) :
    Runs P ρ (.call { callee := .builtin .len, args := #[x], argTypes := #[t] }) tyy w (.int .i64 s.size) w := fun ev h => by
  simp [execOp, resolve, invoke, builtin, h _ _ hx, Builtin.len_, run_underlying hu, goInt]

theorem runs_index_slice {size bytes : Nat} {z : Value} {ag : Bool} {k : IntKind} {i : Int} {b o : Nat} (j : Nat) (hu : P.underlying t = some (.slice e)) (T : TI P e ag size bytes z) (hx : ev? ρ x = some (.slice (some ⟨b, o, none⟩) n c))
    (hy : ev? ρ y = some (.int k i)) (hi : i = (j : Int)) (hj : j < n) : Runs P ρ (.indexAddr t x y) ty w (.pointer (some ⟨b, o + j * size, none⟩)) w := fun ev h => by
  obtain ⟨_, inf, hinf, hsz, _, _⟩ := T
  subst hi
  simp [execOp, h _ _ hx, h _ _ hy, Instr.indexAt, asIntOf, run_underlying hu, hj, sizeOf, typeInfo, hinf, hsz, add_lit]
theorem runs_index_array {size bytes : Nat} {z : Value} {ag : Bool} {k : IntKind} {i : Int} {b o m : Nat} (j : Nat) (hu : P.underlying t = some (.array m e)) (T : TI P e ag size bytes z) (hx : ev? ρ x = some (.pointer (some ⟨b, o, none⟩)))
    (hy : ev? ρ y = some (.int k i)) (hi : i = (j : Int)) (hj : j < m) : Runs P ρ (.indexAddr t x y) ty w (.pointer (some ⟨b, o + j * size, none⟩)) w := fun ev h => by
  obtain ⟨_, inf, hinf, hsz, _, _⟩ := T
  subst hi
  simp [execOp, h _ _ hx, h _ _ hy, Instr.indexAt, asIntOf, run_underlying hu, hj, sizeOf, typeInfo, hinf, hsz, add_lit, Instr.sureAddr]
end

/-! memory -/
theorem runs_load1 {t : TypeId} {size bytes : Nat} {z v : Value} {p : Addr} (T : TI P t false size bytes z) (hx : ev? ρ x = some (.pointer (some p))) (hc : w.cell? p = some v) :
    Runs P ρ (.load t x) ty w v w := fun ev h => by
  simp [execOp, h _ _ hx, Instr.loadAt, Instr.sureAddr, loadVar, T.run_isAgg, hc]
theorem runs_loadAgg {t : TypeId} {size bytes : Nat} {z : Value} {b o : Nat} {cs : List Value} (T : TI P t true size bytes z) (hx : ev? ρ x = some (.pointer (some ⟨b, o, none⟩)))
    (hc : At w b o cs) (hl : cs.length = size) : Runs P ρ (.load t x) ty w (.agg cs.toArray) w := fun ev h => by
  have hi := T.run_isAgg w
  obtain ⟨_, inf, hinf, hsz, _, _⟩ := T
  have hl2 := run_loadCells_list (P := P) w ⟨b, o, none⟩ cs (fun j v hv => by rw [add_lit]; exact hc j v hv)
  rw [hl] at hl2
  simp [execOp, h _ _ hx, Instr.loadAt, Instr.sureAddr, loadVar, hi, sizeOf, typeInfo, hinf, hsz, hl2]
/-- Results that lie in a cell. -/
theorem reads_cell {t : Nat} {tt : TypeId} {size bytes : Nat} {z : Value} {b : Nat} {cs : List Value} (T : TI P tt true size bytes z) (hx : get ρ t = some (.pointer (some ⟨b, 0, none⟩)))
    (hc : At w b 0 cs) (hl : cs.length = size) : Reads P ρ w (.cell t tt) (.agg cs.toArray) := by
  refine ⟨_, hx, ?_⟩
  have hi := T.run_isAgg w
  obtain ⟨_, inf, hinf, hsz, _, _⟩ := T
  have hl2 := run_loadCells_list (P := P) w ⟨b, 0, none⟩ cs (fun j v hv => by rw [add_lit]; exact hc j v hv)
  rw [hl] at hl2
  simp [loadVar, hi, sizeOf, typeInfo, hinf, hsz, hl2]
theorem reads_cell1 {t : Nat} {tt : TypeId} {size bytes : Nat} {z v : Value} {p : Addr} (T : TI P tt false size bytes z) (hx : get ρ t = some (.pointer (some p)))
    (hc : w.cell? p = some v) : Reads P ρ w (.cell t tt) v := by
  refine ⟨_, hx, ?_⟩
  simp [loadVar, T.run_isAgg, hc]
theorem reads_tmp {t : Nat} {v : Value} (hx : get ρ t = some v) : Reads P ρ w (.tmp t) v := hx
theorem ends0 {R : Value → World → Prop} (h : R (.tuple #[]) w) : Ends P [] R ρ w := ⟨[], trivial, h⟩
theorem ends1 {r : ResultVar} {v : Value} {R : Value → World → Prop} (hr : Reads P ρ w r v) (h : R v w) : Ends P [r] R ρ w := ⟨[v], ⟨hr, trivial⟩, h⟩
theorem ends2 {r1 r2 : ResultVar} {v1 v2 : Value} {R : Value → World → Prop} (h1 : Reads P ρ w r1 v1) (h2 : Reads P ρ w r2 v2) (h : R (.tuple #[v1, v2]) w) : Ends P [r1, r2] R ρ w := ⟨[v1, v2], ⟨h1, h2, trivial⟩, h⟩
theorem ends3 {r1 r2 r3 : ResultVar} {v1 v2 v3 : Value} {R : Value → World → Prop} (h1 : Reads P ρ w r1 v1) (h2 : Reads P ρ w r2 v2) (h3 : Reads P ρ w r3 v3) (h : R (.tuple #[v1, v2, v3]) w) : Ends P [r1, r2, r3] R ρ w := ⟨[v1, v2, v3], ⟨h1, h2, h3, trivial⟩, h⟩
end

/-! ### Operations that turn the world, as steps -/
section
variable {P : Program} {n : Nat} {ρ : Env} {w : World} {ops : List Oper} {N : Env → World → Prop} {rest : List Oper} {ty : TypeId} {pos : String} {af : Array Edge} {g : Option (Nat × Bool)} {d : Nat}

theorem chg_alloc (w : World) (o : Obj) : Chg w (w.alloc o) [] := ⟨rfl, rfl, rfl, by simp, fun k hk _ => by
  show (w.heap.push o)[k]? = _
  rw [Array.getElem?_push, if_neg (by omega)]⟩

/-- A new variable of zeros. -/
theorem s_alloc {t : TypeId} {ag : Bool} {size bytes : Nat} {z : Value} (T : TI P t ag size bytes z) (hw : wantE ops ρ g = some true) (hd : Nat.blt d n = true)
    (k : ∀ b w', b = w.heap.size → w'.heap.size = b + 1 → Blk w' b z.cells.toList t → Chg w w' [] → wpL P n ops N rest ((d, .pointer (some ⟨b, 0, none⟩)) :: ρ) w') :
    wpL P n ops N (⟨some d, .alloc t, ty, pos, af, g⟩ :: rest) ρ w :=
  s_val hw hd (w' := w.alloc (.cells z.cells t)) (fun ev _ => by
    obtain ⟨_, inf, hinf, _, _, hz⟩ := T
    simp [execOp, Instr.alloc, zeroValue, typeInfo, hinf, hz, newVar, newRow])
    (k _ _ rfl (by simp) (by unfold Blk; rw [heap_alloc_new]) (chg_alloc w _))
/-- A new variable that holds a value. -/
theorem s_box {t : TypeId} {x : Operand} {v : Value} (hw : wantE ops ρ g = some true) (hd : Nat.blt d n = true) (hx : ev? ρ x = some v)
    (k : ∀ b w', b = w.heap.size → w'.heap.size = b + 1 → Blk w' b v.cells.toList t → Chg w w' [] → wpL P n ops N rest ((d, .pointer (some ⟨b, 0, none⟩)) :: ρ) w') :
    wpL P n ops N (⟨some d, .box t x, ty, pos, af, g⟩ :: rest) ρ w :=
  s_val hw hd (w' := w.alloc (.cells v.cells t)) (fun ev h => by
    simp [execOp, Instr.box, h _ _ hx, newVar, newRow])
    (k _ _ rfl (by simp) (by unfold Blk; rw [heap_alloc_new]) (chg_alloc w _))

theorem blk_setRow {w : World} {b : Nat} {cs cs' : List Value} {t : TypeId} (h : Blk w b cs t) : Blk (w.setRow b cs'.toArray) b cs' t := setRow_heap w b cs.toArray _ t _ h
theorem chg_setRow (w : World) (b : Nat) (cs : Array Value) : Chg w (w.setRow b cs) [b] := ⟨rfl, rfl, rfl, by simp, fun k _ hn => setRow_other w b k cs (by simp at hn; omega)⟩

/-- A store of a value of one or more cells into a known block, from o on. -/
theorem s_store {t te : TypeId} {ag : Bool} {size bytes : Nat} {z v : Value} {x y : Operand} {b o : Nat} {cs : List Value} (T : TI P t ag size bytes z) (hw : wantE ops ρ g = some true)
    (hx : ev? ρ x = some (.pointer (some ⟨b, o, none⟩))) (hy : ev? ρ y = some v) (hb : Blk w b cs te) (hs : v.cells.size = size) (hfit : o + size ≤ cs.length) (h1 : ∀ u ∈ v.cells.toList, u.oneCell' = true)
    (k : ∀ w', w'.heap.size = w.heap.size → Blk w' b (cs.take o ++ v.cells.toList ++ cs.drop (o + size)) te → Chg w w' [b] → wpL P n ops N rest ρ w') :
    wpL P n ops N (⟨none, .store t x y, ty, pos, af, g⟩ :: rest) ρ w := by
  refine s_unit hw (w' := w.setRow b (cs.take o ++ v.cells.toList ++ cs.drop (o + size)).toArray) (fun ev h => ?_) (k _ (by simp) (blk_setRow hb) (chg_setRow _ _ _))
  obtain ⟨_, inf, hinf, hsz, _, _⟩ := T
  have hst := run_storeCells_at P b o te v.cells.toList 0 cs.toArray w hb (by simp [hs]; omega) h1
  simp only [Nat.add_zero, Array.length_toList, hs] at hst
  simp [execOp, h _ _ hx, h _ _ hy, Instr.storeAt, Instr.sureAddr, storeVar, sizeOf, typeInfo, hinf, hsz, hs, hst]
/-- .. of one cell. -/
theorem s_store1 {t te : TypeId} {ag : Bool} {bytes : Nat} {z v : Value} {x y : Operand} {b o : Nat} {cs : List Value} (T : TI P t ag 1 bytes z) (hw : wantE ops ρ g = some true)
    (hx : ev? ρ x = some (.pointer (some ⟨b, o, none⟩))) (hy : ev? ρ y = some v) (hb : Blk w b cs te) (h1 : v.oneCell' = true) (hfit : o < cs.length)
    (k : ∀ w', w'.heap.size = w.heap.size → Blk w' b (cs.set o v) te → Chg w w' [b] → wpL P n ops N rest ρ w') :
    wpL P n ops N (⟨none, .store t x y, ty, pos, af, g⟩ :: rest) ρ w := by
  have hc : v.cells = #[v] := by cases v <;> simp_all [Value.oneCell', Value.cells]
  refine s_store T hw hx hy hb (by rw [hc]; rfl) (by omega) (by rw [hc]; simp [h1]) (fun w' hz h => k w' hz ?_)
  have e : cs.take o ++ v.cells.toList ++ cs.drop (o + 1) = cs.set o v := by
    rw [hc, List.set_eq_take_append_cons_drop, if_pos hfit]; simp
  rw [e] at h; exact h
/-- .. of a whole block. -/
theorem s_storeAll {t te : TypeId} {size bytes : Nat} {ag : Bool} {z : Value} {x y : Operand} {b : Nat} {cs cs' : List Value} (T : TI P t ag size bytes z) (hw : wantE ops ρ g = some true)
    (hx : ev? ρ x = some (.pointer (some ⟨b, 0, none⟩))) (hy : ev? ρ y = some (.agg cs'.toArray)) (hb : Blk w b cs te) (hs : cs'.length = size) (hl : cs.length = size) (h1 : ∀ u ∈ cs', u.oneCell' = true)
    (k : ∀ w', w'.heap.size = w.heap.size → Blk w' b cs' te → Chg w w' [b] → wpL P n ops N rest ρ w') :
    wpL P n ops N (⟨none, .store t x y, ty, pos, af, g⟩ :: rest) ρ w := by
  refine s_store T hw hx hy hb (by simpa [Value.cells] using hs) (by omega) (by simpa [Value.cells] using h1) (fun w' hz h => k w' hz ?_)
  have e : cs.take 0 ++ (Value.agg cs'.toArray).cells.toList ++ cs.drop (0 + size) = cs' := by
    simp [Value.cells, List.drop_eq_nil_of_le (show cs.length ≤ size by omega)]
  rw [e] at h; exact h
end

/-- A region that draws its order, in the class of the worlds in which all that was there is as it was. -/
theorem c_drawX {P : Program} {n : Nat} {ρ : Env} {w : World} {ops : List Oper} {Q : Post} {id : Nat} (fins M : List Nat) (hm : P.follows .mixedOrders = true)
    (h : ∀ w1, Chg w w1 [] → Chg w1 w1 M → wpD P n ops fins (fun w' => Chg w1 w' M) Q.nrm ops.length (Array.replicate ops.length false) ρ w1) : wpC P n (.region id ops.toArray true) Q ρ w :=
  c_draw fins (fun w' => Chg w.drew w' M) hm fun w' hw' => by subst hw'; exact h _ (Chg.drew w) (Chg.refl _ _)

theorem c_seqdraw {P : Program} {n : Nat} {ρ : Env} {w : World} {ops : List Oper} {Q : Post} {id : Nat} {y : Code} (fins M : List Nat) (hm : P.follows .mixedOrders = true)
    (h : ∀ K : Env → World → Prop, (∀ ρ w, wpC P n y Q ρ w → K ρ w) → ∀ w1, Chg w w1 [] → Chg w1 w1 M → wpD P n ops fins (fun w' => Chg w1 w' M) K ops.length (Array.replicate ops.length false) ρ w1) : wpC P n (.seq (.region id ops.toArray true) y) Q ρ w :=
  c_seq fun K hK => c_drawX fins M hm (h K hK)

/-! slices of slices and of arrays -/
section
variable {P : Program} {ρ : Env} {w : World} {ty : TypeId} {x : Operand}
theorem runs_slice_arr {t e : TypeId} {m size bytes : Nat} {ag : Bool} {z : Value} {b : Nat} (hu : P.underlying t = some (.array m e)) (T : TI P e ag size bytes z) (hx : ev? ρ x = some (.pointer (some ⟨b, 0, none⟩))) :
    Runs P ρ (.slice t x none none none) ty w (.slice (some ⟨b, 0, none⟩) m m) w := fun ev h => by
  obtain ⟨_, inf, hinf, _, _, _⟩ := T
  simp [execOp, h _ _ hx, Instr.sliceAt, run_underlying hu, Instr.sureAddr, Instr.sliceBounds, sizeOf, typeInfo, hinf, add_lit]
end
end Go.Proofs.YtmmijecookbajaaDoor
