/- Part Ord0 of the proofs on this seat. Conditions: none beyond those in the theorems. By an AI agent. -/
import Derived.Test.YtmmijecookbajaaDoorNoted
import Derived.Test.YtmmijecookbajaaDoorColl
import Derived.Test.YtmmijecookbajaaDoorNodes
namespace Go.Proofs.YtmmijecookbajaaDoor
open Go Go.RowKit

/-- A slice of hashes that lies at the head of a block of its own. -/
structure HsB (w : World) (g n c : Nat) (hs : List (List Nat)) (t : TypeId) : Prop where
  blk : ∃ rest, Blk w g (natsC .u8 hs.flatten ++ rest) t
  len : hs.length = n
  ok : ∀ h ∈ hs, HOk h
  le : n ≤ c
  mx : c ≤ maxLen
theorem HsB.lt {w : World} {g n c : Nat} {hs : List (List Nat)} {t : TypeId} (h : HsB w g n c hs t) : g < w.heap.size := by
  obtain ⟨r, hb⟩ := h.blk; exact hb.lt
theorem HsB.keep {w w' : World} {g n c : Nat} {hs : List (List Nat)} {t : TypeId} {M : List Nat} (h : HsB w g n c hs t) (x : Chg w w' M) (hn : g ∉ M) : HsB w' g n c hs t := by
  obtain ⟨r, hb⟩ := h.blk
  exact ⟨⟨r, hb.keep x hn⟩, h.len, h.ok, h.le, h.mx⟩
theorem HsB.rd {w : World} {g n c : Nat} {hs : List (List Nat)} {t : TypeId} (h : HsB w g n c hs t) : HsR w (some ⟨g, 0, none⟩) n c hs := by
  obtain ⟨r, hb⟩ := h.blk
  refine ⟨⟨by rw [natsC_length, flat32 h.ok, h.len], h.le, h.mx, fun p hp => ?_, fun h => by cases h⟩, h.len, h.ok⟩
  cases hp
  refine ⟨.inl rfl, fun j v hv => hb.at j v ?_⟩
  rw [List.getElem?_append_left (List.getElem?_eq_some_iff.1 hv).1]; exact hv
theorem hsb_of_own {w : World} {B n : Nat} {e : TypeId} {v : Value} {hs : List (List Nat)} (h : w.ownsRow B e 32 v n (natsC .u8 hs.flatten)) (ok : ∀ x ∈ hs, HOk x) (hl : hs.length = n) (hn : 0 < n) : ∃ g c, v = .slice (some ⟨g, 0, none⟩) n c ∧ HsB w g n c hs e ∧ B ≤ g := by
  rcases h.2 with ⟨_, h0⟩ | ⟨g, cap, cur, rfl, hb, hg, hnc, hcm, hcs, htake⟩
  · omega
  · refine ⟨g, cap, rfl, ⟨⟨cur.toList.drop (n * 32), ?_⟩, hl, ok, hnc, hcm⟩, hb⟩
    rw [← htake, List.take_append_drop]
    exact hg
theorem flat_set32 {hs : List (List Nat)} (ok : ∀ x ∈ hs, HOk x) {i : Nat} (hi : i < hs.length) (x : List Nat) : hs.flatten.take (i * 32) ++ x ++ hs.flatten.drop (i * 32 + 32) = (hs.set i x).flatten := by
  rw [flat_take32 ok, show i * 32 + 32 = (i + 1) * 32 by omega, flat_drop32 ok, List.set_eq_take_append_cons_drop, if_pos hi]
  simp
/-- A hash is written into its place. -/
theorem HsB.put {w w' : World} {g n c i : Nat} {hs : List (List Nat)} {t : TypeId} {x : List Nat} {cs : List Value} (h : HsB w g n c hs t) (hx : HOk x) (hi : i < n) (hcs : Blk w g cs t)
    (hw : Blk w' g (cs.take (i * 32) ++ natsC .u8 x ++ cs.drop (i * 32 + 32)) t) : HsB w' g n c (hs.set i x) t := by
  obtain ⟨r, hb⟩ := h.blk
  have hl := h.len
  have e : cs = natsC .u8 hs.flatten ++ r := by
    have h1 : some (Obj.cells cs.toArray t (0, 0)) = some (Obj.cells (natsC .u8 hs.flatten ++ r).toArray t (0, 0)) := hcs.symm.trans hb
    simpa using h1
  have h32 : (natsC .u8 hs.flatten).length = n * 32 := by rw [natsC_length, flat32 h.ok, hl]
  refine ⟨⟨r, ?_⟩, by simp [hl], fun y hy => ?_, h.le, h.mx⟩
  · rw [e, List.take_append_of_le_length (by omega), List.drop_append_of_le_length (by omega), ← natsC_take, ← natsC_drop, ← List.append_assoc] at hw
    rw [← flat_set32 h.ok (by omega) x, natsC_append, natsC_append]
    exact hw
  · rcases List.mem_or_eq_of_mem_set hy with hy | rfl
    · exact h.ok y hy
    · exact hx
theorem runs_build_zeroS {P : Program} {ρ : Env} {w : World} {ty t : TypeId} {fs : Array Field} {ag : Bool} {size bytes : Nat} {z : Value} {cs : Array Value} {xs : Array (Nat × Nat)} (hu : P.underlying t = some (.struct fs)) (T : TI P t ag size bytes z) (hz : z = .agg cs)
    (hfs : (fs.mapM (fun f => Prod.mk f.offset <$> sizeOf f.type)).run P w = .ok xs w) :
    Runs P ρ (.build t #[]) ty w (.agg cs) w := fun ev h => by
  obtain ⟨_, inf, hinf, hsz, _, hz'⟩ := T
  subst hz
  simp [execOp, Instr.build, run_underlying hu, hfs, zeroValue, typeInfo, hinf, hz', Instr.fill, Value.cells]
/-- A tape that was just made. -/
theorem tape_new {w : World} {B bt : Nat} (hb : Blk w bt [.slice none 0 0] 53) (hB : B ≤ bt) : TArg w B (fun k => k = bt) (.pointer (some ⟨bt, 0, none⟩)) (some (bt, .slice none 0 0, [])) :=
  ⟨rfl, ⟨hb, hB, rfl, ⟨[], World.ownsRow_nil _ _ _ _, rfl, fun i v bs hv => by simp at hv⟩, by simp [Value.ownBlock]⟩⟩
end Go.Proofs.YtmmijecookbajaaDoor
