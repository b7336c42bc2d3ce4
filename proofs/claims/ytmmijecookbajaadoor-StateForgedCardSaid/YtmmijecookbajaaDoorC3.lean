/- Rules for 32-bit and 64-bit words and lists of bytes. Conditions: none beyond those in the theorems. By an AI agent. -/
import Derived.Test.YtmmijecookbajaaDoorC2
namespace Go.Proofs.YtmmijecookbajaaDoor
open Go Go.RowKit

/-! ### Words of 32 bits, as natural numbers -/
def m32 : Nat := 4294967296
theorem lt_mod (a : Nat) : a % 4294967296 < 4294967296 := Nat.mod_lt _ (by decide)
theorem lt_or {a b : Nat} (ha : a < 4294967296) (hb : b < 4294967296) : a ||| b < 4294967296 := Nat.or_lt_two_pow (n := 32) ha hb
theorem lt_xor {a b : Nat} (ha : a < 4294967296) (hb : b < 4294967296) : a ^^^ b < 4294967296 := Nat.xor_lt_two_pow (n := 32) ha hb
theorem lt_and {a b : Nat} (hb : b < 4294967296) : a &&& b < 4294967296 := Nat.and_lt_two_pow (n := 32) _ hb
theorem lt_div {a : Nat} (b : Nat) (ha : a < 4294967296) : a / b < 4294967296 := Nat.lt_of_le_of_lt (Nat.div_le_self _ _) ha

theorem ofInt32 (a : Nat) : BitVec.ofInt 32 (a : Int) = BitVec.ofNat 32 a := by simp
theorem toNat32 {a : Nat} (ha : a < 4294967296) : (BitVec.ofInt 32 (a : Int)).toNat = a := by rw [ofInt32, BitVec.toNat_ofNat]; exact Nat.mod_eq_of_lt ha
theorem wrap_u32n {a : Nat} (ha : a < 4294967296) : IntKind.u32.wrap (a : Int) = (a : Int) := by rw [wrap_u32]; omega

section
variable {P : Program} {ρ : Env} {w : World} {ty tx tyy : TypeId} {x y : Operand} {a b : Nat}
theorem runs_or32 (hx : ev? ρ x = some (.int .u32 (a : Int))) (hy : ev? ρ y = some (.int .u32 (b : Int))) (ha : a < 4294967296) (hb : b < 4294967296) : Runs P ρ (.binOp .or tx x y tyy) ty w (.int .u32 ((a ||| b : Nat) : Int)) w :=
  runs_as (runs_or hx hy) (by
    show Value.int .u32 (IntKind.u32.wrap ((BitVec.ofInt 32 (a : Int) ||| BitVec.ofInt 32 (b : Int)).toNat : Int)) = _
    rw [BitVec.toNat_or, toNat32 ha, toNat32 hb, wrap_u32n (lt_or ha hb)])
theorem runs_xor32 (hx : ev? ρ x = some (.int .u32 (a : Int))) (hy : ev? ρ y = some (.int .u32 (b : Int))) (ha : a < 4294967296) (hb : b < 4294967296) : Runs P ρ (.binOp .xor tx x y tyy) ty w (.int .u32 ((a ^^^ b : Nat) : Int)) w :=
  runs_as (runs_xor hx hy) (by
    show Value.int .u32 (IntKind.u32.wrap ((BitVec.ofInt 32 (a : Int) ^^^ BitVec.ofInt 32 (b : Int)).toNat : Int)) = _
    rw [BitVec.toNat_xor, toNat32 ha, toNat32 hb, wrap_u32n (lt_xor ha hb)])
theorem runs_and32 (hx : ev? ρ x = some (.int .u32 (a : Int))) (hy : ev? ρ y = some (.int .u32 (b : Int))) (ha : a < 4294967296) (hb : b < 4294967296) : Runs P ρ (.binOp .and tx x y tyy) ty w (.int .u32 ((a &&& b : Nat) : Int)) w :=
  runs_as (runs_and hx hy) (by
    show Value.int .u32 (IntKind.u32.wrap ((BitVec.ofInt 32 (a : Int) &&& BitVec.ofInt 32 (b : Int)).toNat : Int)) = _
    rw [BitVec.toNat_and, toNat32 ha, toNat32 hb, wrap_u32n (lt_and hb)])
theorem runs_not32 (hx : ev? ρ x = some (.int .u32 (a : Int))) (ha : a < 4294967296) : Runs P ρ (.unOp .xor tx x) ty w (.int .u32 ((4294967295 ^^^ a : Nat) : Int)) w :=
  runs_as (runs_compl hx) (by
    show Value.int .u32 (IntKind.u32.wrap ((BitVec.ofInt 32 ((4294967295 : Nat) : Int) ^^^ BitVec.ofInt 32 (a : Int)).toNat : Int)) = _
    rw [BitVec.toNat_xor, toNat32 ha, toNat32 (by decide), wrap_u32n (lt_xor (by decide) ha)])
theorem runs_add32 (hx : ev? ρ x = some (.int .u32 (a : Int))) (hy : ev? ρ y = some (.int .u32 (b : Int))) : Runs P ρ (.binOp .add tx x y tyy) ty w (.int .u32 (((a + b) % 4294967296 : Nat) : Int)) w :=
  runs_as (runs_add hx hy) (by rw [wrap_u32]; congr 1)
theorem runs_shl32 {k : IntKind} {s : Int} (hx : ev? ρ x = some (.int .u32 (a : Int))) (hy : ev? ρ y = some (.int k s)) (hs : 0 ≤ s ∧ s ≤ 32) : Runs P ρ (.binOp .shl tx x y tyy) ty w (.int .u32 ((a * 2 ^ s.toNat % 4294967296 : Nat) : Int)) w :=
  runs_as (runs_shl hx hy hs.1) (by
    rw [wrap_u32, show min s.toNat IntKind.u32.bits = s.toNat from Nat.min_eq_left (by show s.toNat ≤ 32; omega)]
    simp [Int.natCast_emod, Int.natCast_mul, Int.natCast_pow])
theorem runs_shr32 {k : IntKind} {s : Int} (hx : ev? ρ x = some (.int .u32 (a : Int))) (hy : ev? ρ y = some (.int k s)) (hs : 0 ≤ s ∧ s ≤ 32) : Runs P ρ (.binOp .shr tx x y tyy) ty w (.int .u32 ((a / 2 ^ s.toNat : Nat) : Int)) w :=
  runs_as (runs_shr hx hy hs.1) (by
    rw [show min s.toNat IntKind.u32.bits = s.toNat from Nat.min_eq_left (by show s.toNat ≤ 32; omega)]
    rw [Int.fdiv_eq_ediv_of_nonneg _ (by exact Int.pow_nonneg (by decide))]
    simp [Int.natCast_ediv, Int.natCast_pow])
theorem runs_shr64 {k : IntKind} {s : Int} (hx : ev? ρ x = some (.int .u64 (a : Int))) (hy : ev? ρ y = some (.int k s)) (hs : 0 ≤ s ∧ s ≤ 64) : Runs P ρ (.binOp .shr tx x y tyy) ty w (.int .u64 ((a / 2 ^ s.toNat : Nat) : Int)) w :=
  runs_as (runs_shr hx hy hs.1) (by
    rw [show min s.toNat IntKind.u64.bits = s.toNat from Nat.min_eq_left (by show s.toNat ≤ 64; omega)]
    rw [Int.fdiv_eq_ediv_of_nonneg _ (by exact Int.pow_nonneg (by decide))]
    simp [Int.natCast_ediv, Int.natCast_pow])
theorem runs_conv64 {ds : TypeDesc} {ts td : TypeId} {k : IntKind} (hs : P.underlying ts = some ds) (hd : P.underlying td = some (.int .u64)) (hx : ev? ρ x = some (.int k (a : Int))) (ha : a ≤ 18446744073709551615) :
    Runs P ρ (.convert ts td x) ty w (.int .u64 (a : Int)) w := runs_as (runs_conv hs hd hx) (by rw [wrap_u64 (by omega) (by omega)])
theorem runs_mul64u {b : Nat} (hx : ev? ρ x = some (.int .u64 (a : Int))) (hy : ev? ρ y = some (.int .u64 (b : Int))) (h : a * b ≤ 18446744073709551615) : Runs P ρ (.binOp .mul tx x y tyy) ty w (.int .u64 ((a * b : Nat) : Int)) w :=
  runs_as (runs_mul hx hy) (by rw [wrap_u64 (by rw [← Int.natCast_mul]; omega) (by rw [← Int.natCast_mul]; omega), Int.natCast_mul])
theorem runs_conv32 {ds : TypeDesc} {ts td : TypeId} {k : IntKind} (hs : P.underlying ts = some ds) (hd : P.underlying td = some (.int .u32)) (hx : ev? ρ x = some (.int k (a : Int))) (ha : a < 4294967296) :
    Runs P ρ (.convert ts td x) ty w (.int .u32 (a : Int)) w := runs_as (runs_conv hs hd hx) (by rw [wrap_u32n ha])
theorem runs_conv8 {ds : TypeDesc} {ts td : TypeId} {k : IntKind} (hs : P.underlying ts = some ds) (hd : P.underlying td = some (.int .u8)) (hx : ev? ρ x = some (.int k (a : Int))) :
    Runs P ρ (.convert ts td x) ty w (.int .u8 ((a % 256 : Nat) : Int)) w := runs_as (runs_conv hs hd hx) (by rw [wrap_u8]; congr 1)
end
/-- Numbers as cells. -/
def natsC (k : IntKind) (xs : List Nat) : List Value := xs.map fun (n : Nat) => Value.int k (n : Int)
theorem natsC_length (k : IntKind) (xs : List Nat) : (natsC k xs).length = xs.length := by simp [natsC]
theorem natsC_get {k : IntKind} {xs : List Nat} {i v : Nat} (h : xs[i]? = some v) : (natsC k xs)[i]? = some (.int k (v : Int)) := by simp [natsC, h]
theorem natsC_one (k : IntKind) (xs : List Nat) : ∀ u ∈ natsC k xs, u.oneCell' = true := by
  intro u hu
  simp only [natsC, List.mem_map] at hu
  obtain ⟨n, _, rfl⟩ := hu
  rfl
theorem natsC_set (k : IntKind) (xs : List Nat) (i v : Nat) : (natsC k xs).set i (.int k (v : Int)) = natsC k (xs.set i v) := by simp [natsC, List.map_set]
theorem natsC_append (k : IntKind) (xs ys : List Nat) : natsC k (xs ++ ys) = natsC k xs ++ natsC k ys := by simp [natsC]
theorem natsC_take (k : IntKind) (xs : List Nat) (i : Nat) : natsC k (xs.take i) = (natsC k xs).take i := by simp [natsC, List.map_take]
theorem natsC_drop (k : IntKind) (xs : List Nat) (i : Nat) : natsC k (xs.drop i) = (natsC k xs).drop i := by simp [natsC, List.map_drop]
theorem natsC_ints (k : IntKind) (xs : List Nat) : natsC k xs = intsC k (xs.map Int.ofNat) := by simp [natsC, intsC]
theorem natsC_replicate (k : IntKind) (n v : Nat) : natsC k (List.replicate n v) = List.replicate n (.int k (v : Int)) := by simp [natsC]
/-- What is owned, behind a step. -/
theorem own_keep {w w' : World} {B : Nat} {e : TypeId} {size n : Nat} {v : Value} {xs : List Value} {M : List Nat} (h : w.ownsRow B e size v n xs) (x : Chg w w' M) (hn : ∀ k, v.ownBlock = some k → k ∉ M) : w'.ownsRow B e size v n xs := by
  refine ⟨h.1, ?_⟩
  rcases h.2 with hn0 | ⟨g, cap, cur, rfl, hb, hgg, rest⟩
  · exact .inl hn0
  · exact .inr ⟨g, cap, cur, rfl, hb, (x.block g (Array.getElem?_eq_some_iff.1 hgg).1 (hn g rfl)).trans hgg, rest⟩
theorem lit_reads {w : World} {b m : Nat} {cs : List Value} {t : TypeId} {size : Nat} (h : Blk w b cs t) (hl : cs.length = m * size) (hm : m ≤ maxLen) : SlR w size (some ⟨b, 0, none⟩) m m cs :=
  ⟨hl, Nat.le_refl _, hm, fun p hp => by cases hp; exact ⟨.inl rfl, h.at⟩, fun h => by cases h⟩
/-- A slice of bytes that can be read. -/
abbrev Bytes (w : World) (a : Option Addr) (n c : Nat) (bs : List Nat) : Prop := SlR w 1 a n c (natsC .u8 bs)
theorem Bytes.length {w : World} {a : Option Addr} {n c : Nat} {bs : List Nat} (h : Bytes w a n c bs) : bs.length = n := by have := h.len; simpa [natsC] using this
end Go.Proofs.YtmmijecookbajaaDoor
