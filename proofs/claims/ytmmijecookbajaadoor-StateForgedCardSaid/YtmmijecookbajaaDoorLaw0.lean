/- light, Leaves and history.Path answer as the specification says. Conditions: none beyond those in the theorems. By an AI agent. -/
import Derived.Test.YtmmijecookbajaaDoorRoot
import Derived.Test.YtmmijecookbajaaDoorSp3
import Derived.Test.YtmmijecookbajaaDoorC4
namespace Go.Proofs.YtmmijecookbajaaDoor
open Go Go.RowKit

def SA.parts (n : Nat) (bss : List (List Nat)) : SA := ⟨fun w v => ∃ a, v = .slice a n n ∧ Parts w a n n bss, fun _ _ _ ⟨a, e, h⟩ x => ⟨a, e, h.grow x⟩⟩
theorem own_base {w : World} {B B' : Nat} {e : TypeId} {size n : Nat} {v : Value} {xs : List Value} (h : w.ownsRow B e size v n xs) (hb : B' ≤ B) : w.ownsRow B' e size v n xs := by
  refine ⟨h.1, ?_⟩
  rcases h.2 with hn0 | ⟨g, cap, cur, rfl, hb2, rest⟩
  · exact .inl hn0
  · exact .inr ⟨g, cap, cur, rfl, by omega, rest⟩
theorem own_hs {w : World} {B n : Nat} {e : TypeId} {v : Value} {hs : List (List Nat)} (h : w.ownsRow B e 32 v n (natsC .u8 hs.flatten)) (ok : ∀ x ∈ hs, HOk x) (hl : hs.length = n) : ∃ a c, v = .slice a n c ∧ HsR w a n c hs ∧ v.ownBlock = a.map (·.block) := by
  obtain ⟨a, c, e, r, o⟩ := own_reads h
  exact ⟨a, c, e, ⟨r, hl, ok⟩, o⟩
theorem flat_hv (l : List (List Nat)) : flatC (l.map hv) = natsC .u8 l.flatten := by
  unfold flatC
  induction l with
  | nil => rfl
  | cons x l ih =>
    simp only [List.map_cons, List.flatMap_cons, List.flatten_cons, natsC_append, ih]
    rfl
theorem hv_sz {l : List (List Nat)} (h : ∀ x ∈ l, HOk x) : ∀ v ∈ l.map hv, v.cells.size = 32 := by
  intro v hv'
  obtain ⟨x, hx, rfl⟩ := List.mem_map.1 hv'
  show (natsC .u8 x).toArray.size = 32
  simp [natsC_length, (h x hx).1]
/-- A literal of hashes. -/
theorem hs_lit {w : World} {b m : Nat} (l : List (List Nat)) {t : TypeId} (h : Blk w b (flatC (l.map hv)) t) (ok : ∀ x ∈ l, HOk x) (hl : l.length = m) (hm : m ≤ maxLen := by simp [maxLen]) : HsR w (some ⟨b, 0, none⟩) m m l :=
  ⟨by
    rw [flat_hv] at h
    exact lit_reads (m := m) (size := 32) h (by rw [natsC_length, flat32 ok, hl]) hm, hl, ok⟩

theorem pre0 {B : Nat} {w : World} (g : GH B w) (b : B ≤ w.heap.size) : Pre B (fun _ => False) (.pointer none) none w := ⟨g, b, rfl, fun _ h => h.elim⟩
theorem of0 {B : Nat} {w : World} {a : Option Addr} {n c : Nat} {bss : List (List Nat)} (g : GH B w) (hb : B ≤ w.heap.size) (h : Parts w a n c bss) (hn : bss.flatten.length ≤ 1099511627776) :
    CallsR Tryd.prog 18 #[.pointer none, .slice a n c] w fun v w' => v = hv (Sp.sha bss.flatten) ∧ Chg w w' [] := of_nil B bss a n c w g.sha hb h hn

end Go.Proofs.YtmmijecookbajaaDoor
