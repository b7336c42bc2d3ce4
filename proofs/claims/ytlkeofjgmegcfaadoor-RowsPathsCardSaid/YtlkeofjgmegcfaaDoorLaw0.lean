/- light, Leaves and history.Path answer as the specification says. Conditions: none beyond those in the theorems. By an AI agent. -/
import Derived.Test.YtlkeofjgmegcfaaDoorRoot
import Derived.Test.YtlkeofjgmegcfaaDoorSp3
import Derived.Test.YtlkeofjgmegcfaaDoorC4
namespace Go.Proofs.YtlkeofjgmegcfaaDoor
open Go Go.RowKit

def SA.parts (n : Nat) (bss : List (List Nat)) : SA := ⟨fun w v => ∃ a, v = .slice a n n ∧ Parts w a n n bss, fun _ _ _ ⟨a, e, h⟩ x => ⟨a, e, h.grow x⟩⟩
theorem own_base {w : World} {B B' : Nat} {e : TypeId} {size n : Nat} {v : Value} {xs : List Value} (h : w.ownsRow B e size v n xs) (hb : B' ≤ B) : w.ownsRow B' e size v n xs := by
  refine ⟨h.1, ?_⟩
  rcases h.2 with hn0 | ⟨g, cap, cur, rfl, hb2, rest⟩
  · exact .inl hn0
  · exact .inr ⟨g, cap, cur, rfl, by omega, rest⟩
theorem own_hs {w : World} {B n : Nat} {e : TypeId} {v : Value} {hs : List (List Nat)} (h : w.ownsRow B e 32 v n (natsC .u8 hs.flatten)) (ok : ∀ x ∈ hs, HOk x) (hl : hs.length = n) : ∃ a c, v = .slice a n c ∧ HsR w a n c hs ∧ v.ownBlock = a.map (·.block) := by
  obtain ⟨a, c, e, r, o⟩ := own_reads h
  exact ⟨a, c, e, ⟨r, hl, ok⟩, o⟩
theorem flat_hv (l : List (List Nat)) : flatC (l.map hv) = natsC .u8 l.flatten := by
  unfold flatC
  induction l with
  | nil => rfl
  | cons x l ih =>
    simp only [List.map_cons, List.flatMap_cons, List.flatten_cons, natsC_append, ih]
    rfl
theorem hv_sz {l : List (List Nat)} (h : ∀ x ∈ l, HOk x) : ∀ v ∈ l.map hv, v.cells.size = 32 := by
  intro v hv'
  obtain ⟨x, hx, rfl⟩ := List.mem_map.1 hv'
  show (natsC .u8 x).toArray.size = 32
  simp [natsC_length, (h x hx).1]
/-- A literal of hashes. -/
theorem hs_lit {w : World} {b m : Nat} (l : List (List Nat)) {t : TypeId} (h : Blk w b (flatC (l.map hv)) t) (ok : ∀ x ∈ l, HOk x) (hl : l.length = m) (hm : m ≤ maxLen := by simp [maxLen]) : HsR w (some ⟨b, 0, none⟩) m m l :=
  ⟨by
    rw [flat_hv] at h
    exact lit_reads (m := m) (size := 32) h (by rw [natsC_length, flat32 ok, hl]) hm, hl, ok⟩

theorem pre0 {B : Nat} {w : World} (g : GH B w) (b : B ≤ w.heap.size) : Pre B (fun _ => False) (.pointer none) none w := ⟨g, b, rfl, fun _ h => h.elim⟩
theorem root0 {B : Nat} {w : World} {a : Option Addr} {n c : Nat} {hs : List (List Nat)} (g : GH B w) (b : B ≤ w.heap.size) (h : HsR w a n c hs) (hn : n ≤ 1048576) :
    CallsR Tryd.prog 19 #[.pointer none, .slice a n c] w fun v w' => v = hv (Sp.root hs) ∧ Chg w w' [] :=
  (root_calls _ hs (Nat.le_refl _) B _ _ none a n c w (pre0 g b) h (fun _ _ => by simp [foot]) hn (by simp [TS.len]; omega)).mono fun _ _ ⟨e, _, p⟩ => ⟨e, p.chg⟩
theorem node0 {B : Nat} {w : World} {x y : List Nat} (g : GH B w) (b : B ≤ w.heap.size) (hx : HOk x) (hy : HOk y) :
    CallsR Tryd.prog 29 #[.pointer none, hv x, hv y] w fun v w' => v = hv (Sp.node x y) ∧ Chg w w' [] :=
  (node_calls B (fun _ => False) _ none x y w g b hx hy rfl (fun _ h => h.elim) (by simp [TS.len])).mono fun _ _ ⟨e, _, p⟩ => ⟨e, p.chg⟩
theorem leaf0 {B : Nat} {w : World} {a : Option Addr} {n c : Nat} {b : List Nat} (g : GH B w) (hb : B ≤ w.heap.size) (h : Bytes w a n c b) (hl : ∀ x ∈ b, x < 256) (hn : n ≤ 1099511627000) :
    CallsR Tryd.prog 25 #[.pointer none, .slice a n c] w fun v w' => v = hv (Sp.leaf b) ∧ Chg w w' [] :=
  (leaf_calls B (fun _ => False) _ none b a n c w g hb h hl hn rfl (fun _ h => h.elim) (by simp [TS.len])).mono fun _ _ ⟨e, _, p⟩ => ⟨e, p.chg⟩
theorem of0 {B : Nat} {w : World} {a : Option Addr} {n c : Nat} {bss : List (List Nat)} (g : GH B w) (hb : B ≤ w.heap.size) (h : Parts w a n c bss) (hn : bss.flatten.length ≤ 1099511627776) :
    CallsR Tryd.prog 24 #[.pointer none, .slice a n c] w fun v w' => v = hv (Sp.sha bss.flatten) ∧ Chg w w' [] := of_nil B bss a n c w g.sha hb h hn

theorem path_bad (i : Int) (a : Option Addr) (n c : Nat) (w : World) (h : i < 0 ∨ (n : Int) ≤ i) :
    CallsR Tryd.prog 30 #[.pointer none, .int .i64 i, .slice a n c] w fun v w' => v = .tuple #[.slice none 0 0, .bool false] ∧ Chg w w' [] := by
  refine f_enter (l := [.pointer none, .int .i64 i, .slice a n c]) Tryd.func30 rfl rfl rfl rfl ?_
  rcases Decidable.em (i < 0) with hi | hi
  · skip
    intro Qf hnrm hret
    refine c_seqreg (fun K1 hK1 => ?_)
    refine s_val rfl rfl (runs_assign rfl) ?_
    refine s_val rfl rfl (runs_assign rfl) ?_
    refine s_nil ?_
    refine hK1 _ _ ?_
    refine c_seq (fun K2 hK2 => ?_)
    refine c_seqreg (fun K3 hK3 => ?_)
    refine s_val rfl rfl (runs_move rfl) ?_
    refine s_val rfl rfl (runs_dt (runs_lt rfl rfl) hi) ?_
    refine s_val rfl rfl (runs_move rfl) ?_
    refine s_skip rfl rfl ?_
    refine s_skip rfl rfl ?_
    refine s_skip rfl rfl ?_
    refine s_skip rfl rfl ?_
    refine s_val rfl rfl (runs_pickt rfl rfl) ?_
    refine s_nil ?_
    refine hK3 _ _ ?_
    refine c_true rfl ?_
    refine c_seqreg (fun K4 hK4 => ?_)
    refine s_val rfl rfl (runs_assign rfl) ?_
    refine s_val rfl rfl (runs_assign rfl) ?_
    refine s_nil ?_
    refine hK4 _ _ ?_
    refine c_ret ?_
    refine hret _ _ ?_
    exact ends2 (reads_tmp rfl) (reads_tmp rfl) ⟨rfl, Chg.refl _ _⟩
  · skip
    intro Qf hnrm hret
    refine c_seqreg (fun K1 hK1 => ?_)
    refine s_val rfl rfl (runs_assign rfl) ?_
    refine s_val rfl rfl (runs_assign rfl) ?_
    refine s_nil ?_
    refine hK1 _ _ ?_
    refine c_seq (fun K2 hK2 => ?_)
    refine c_seqreg (fun K3 hK3 => ?_)
    refine s_val rfl rfl (runs_move rfl) ?_
    refine s_val rfl rfl (runs_df (runs_lt rfl rfl) hi) ?_
    refine s_val rfl rfl (runs_move rfl) ?_
    refine s_val rfl rfl (runs_move rfl) ?_
    refine s_val rfl rfl (runs_move rfl) ?_
    refine s_val rfl rfl (runs_len_slice Tryd.underlying51 rfl) ?_
    refine s_val rfl rfl (runs_dt (runs_ge rfl rfl) (by omega)) ?_
    refine s_val rfl rfl (runs_pickf rfl rfl) ?_
    refine s_nil ?_
    refine hK3 _ _ ?_
    refine c_true rfl ?_
    refine c_seqreg (fun K4 hK4 => ?_)
    refine s_val rfl rfl (runs_assign rfl) ?_
    refine s_val rfl rfl (runs_assign rfl) ?_
    refine s_nil ?_
    refine hK4 _ _ ?_
    refine c_ret ?_
    refine hret _ _ ?_
    exact ends2 (reads_tmp rfl) (reads_tmp rfl) ⟨rfl, Chg.refl _ _⟩

set_option maxHeartbeats 1000000 in
theorem path_calls (m : Nat) : ∀ (hs : List (List Nat)), hs.length ≤ m → ∀ (B i : Nat) (a : Option Addr) (n c : Nat) (w : World), GH B w → B ≤ w.heap.size → HsR w a n c hs → n ≤ 1048576 → i < n →
    CallsR Tryd.prog 30 #[.pointer none, .int .i64 (i : Int), .slice a n c] w fun v w' => ∃ vp, v = .tuple #[vp, .bool true] ∧
      w'.ownsRow w.heap.size 43 32 vp (Sp.path hs i).length (natsC .u8 (Sp.path hs i).flatten) ∧ Chg w w' [] := by
  induction m with
  | zero => intro hs hm B i a n c w _ _ hH _ hi; have := hH.len; omega
  | succ m ih =>
    intro hs hm B i a n c w hG hBw hH hn hi
    have hlen := hH.len
    refine f_enter (l := [.pointer none, .int .i64 (i : Int), .slice a n c]) Tryd.func30 rfl rfl rfl rfl ?_
    intro Qf hnrm hret
    refine c_seqreg (fun K1 hK1 => ?_)
    refine s_val rfl rfl (runs_assign rfl) ?_
    refine s_val rfl rfl (runs_assign rfl) ?_
    refine s_nil ?_
    refine hK1 _ _ ?_
    refine c_seq (fun K2 hK2 => ?_)
    refine c_seqreg (fun K3 hK3 => ?_)
    refine s_val rfl rfl (runs_move rfl) ?_
    refine s_val rfl rfl (runs_df (runs_lt rfl rfl) (by omega)) ?_
    refine s_val rfl rfl (runs_move rfl) ?_
    refine s_val rfl rfl (runs_move rfl) ?_
    refine s_val rfl rfl (runs_move rfl) ?_
    refine s_val rfl rfl (runs_len_slice Tryd.underlying51 rfl) ?_
    refine s_val rfl rfl (runs_df (runs_ge rfl rfl) (by omega)) ?_
    refine s_val rfl rfl (runs_pickf rfl rfl) ?_
    refine s_nil ?_
    refine hK3 _ _ ?_
    refine c_false rfl ?_
    refine c_skip ?_
    refine hK2 _ _ ?_
    refine c_seq (fun K4 hK4 => ?_)
    refine c_seqreg (fun K5 hK5 => ?_)
    refine s_val rfl rfl (runs_move rfl) ?_
    refine s_val rfl rfl (runs_len_slice Tryd.underlying51 rfl) ?_
    refine s_val rfl rfl (runs_eqd rfl rfl) ?_
    refine s_nil ?_
    refine hK5 _ _ ?_
    refine c_dec rfl (fun h1 => ?_) (fun h1 => ?_)
    · obtain ⟨x, rfl⟩ : ∃ x, hs = [x] := by
        match hs, hlen with
        | [x], _ => exact ⟨x, rfl⟩
        | [], e => simp at e; omega
        | _ :: _ :: _, e => simp at e; omega
      refine c_seqreg (fun K6 hK6 => ?_)
      refine s_val rfl rfl (runs_assign rfl) ?_
      refine s_val rfl rfl (runs_assign rfl) ?_
      refine s_nil ?_
      refine hK6 _ _ ?_
      refine c_ret ?_
      refine hret _ _ ?_
      exact ends2 (reads_tmp rfl) (reads_tmp rfl) ⟨_, rfl, by rw [Sp.path_one]; exact World.ownsRow_nil _ _ _ _, Chg.refl _ _⟩
    · refine c_skip ?_
      refine hK4 _ _ ?_
      refine c_seqreg (fun K7 hK7 => ?_)
      refine s_val rfl rfl (runs_move rfl) ?_
      refine s_val rfl rfl (runs_len_slice Tryd.underlying51 rfl) ?_
      refine s_callf (xs := [.tmp 25]) rfl rfl Tryd.func28 rfl (by kernel_rfl) rfl (split_calls n _ (by omega)) ?_
      rintro _ w5 ⟨rfl, X5_2⟩
      replace hG := hG.keep X5_2 (by simp)
      replace hH := hH.keep0 X5_2
      have zs5_2 := X5_2.size
      have hz5 := X5_2.size
      refine s_val rfl rfl (runs_assign rfl) ?_
      refine s_nil ?_
      have h2 : 2 ≤ n := by omega
      have hk0 := Sp.split_pos n
      have hk1 := Sp.split_lt h2
      obtain ⟨k, hk⟩ : ∃ k, k = Sp.split n := ⟨_, rfl⟩
      rw [← hk] at hk0 hk1 ⊢
      have hcn := hH.rd.le
      have e1 : (hs.take k).length = k := by rw [List.length_take]; omega
      have e2 : (hs.drop k).length = n - k := by rw [List.length_drop]; omega
      have o1 : ∀ x ∈ hs.take k, HOk x := fun x hx => hH.ok x (List.mem_of_mem_take hx)
      have o2 : ∀ x ∈ hs.drop k, HOk x := fun x hx => hH.ok x (List.mem_of_mem_drop hx)
      refine hK7 _ _ ?_
      refine c_seq (fun K9 hK9 => ?_)
      refine c_seqreg (fun K10 hK10 => ?_)
      refine s_val rfl rfl (runs_move rfl) ?_
      refine s_val rfl rfl (runs_move rfl) ?_
      refine s_val rfl rfl (runs_lt rfl rfl) ?_
      refine s_nil ?_
      refine hK10 _ _ ?_
      refine c_dec rfl (fun hik => ?_) (fun hik => ?_)
      · refine c_seqreg (fun K11 hK11 => ?_)
        refine s_val rfl rfl (runs_move rfl) ?_
        refine s_val rfl rfl (runs_move rfl) ?_
        refine s_val rfl rfl (runs_move rfl) ?_
        refine s_val rfl rfl (runs_move rfl) ?_
        refine s_val rfl rfl (runs_slice_to (k) Tryd.underlying51 ty43 rfl rfl (by omega) (by omega)) ?_
        refine s_callf (xs := [.tmp 31, .tmp 32, .tmp 35]) rfl rfl Tryd.func30 rfl (by kernel_rfl) rfl (ih (hs.take k) (by omega) B i a k c _ hG (by omega) (hH.to_ k (by omega)) (by omega) (by omega)) ?_
        rintro _ w7 ⟨vp, rfl, hown, X7_5⟩
        replace hG := hG.keep X7_5 (by simp)
        replace hH := hH.keep0 X7_5
        have zs7_5 := X7_5.size
        have hz7 := X7_5.size
        refine s_val rfl rfl (runs_move rfl) ?_
        refine s_val rfl rfl (runs_extract rfl rfl) ?_
        refine s_val rfl rfl (runs_extract rfl rfl) ?_
        refine s_val rfl rfl (runs_assign rfl) ?_
        refine s_val rfl rfl (runs_assign rfl) ?_
        refine s_nil ?_
        have hpl := Sp.path_len (hs.take k) i
        refine hK11 _ _ ?_
        refine c_seqreg (fun K13 hK13 => ?_)
        refine s_val rfl rfl (runs_move rfl) ?_
        refine s_val rfl rfl (runs_move rfl) ?_
        refine s_val rfl rfl (runs_move rfl) ?_
        refine s_val rfl rfl (runs_move rfl) ?_
        refine s_val rfl rfl (runs_slice_from (k) Tryd.underlying51 ty43 rfl rfl (by omega) (by omega)) ?_
        refine s_callf (xs := [.tmp 40, .tmp 43]) rfl rfl Tryd.func19 rfl (by kernel_rfl) rfl (root0 hG (by omega) (hH.from_ k (by omega)) (by omega)) ?_
        rintro _ w8 ⟨rfl, X8_5⟩
        replace hG := hG.keep X8_5 (by simp)
        replace hH := hH.keep0 X8_5
        replace hown := own_keep hown X8_5 (by simp)
        have zs8_5 := X8_5.size
        have hz8 := X8_5.size
        refine s_lit (xs := [.tmp 44]) Tryd.underlying51 ty43 rfl rfl rfl rfl rfl (hv_sz (l := [Sp.root (hs.drop k)]) (by simpa using root_ok _ _ (Nat.le_refl _) o2)) (by decide) (by decide) ?_
        intro b86 w86 e8_6 z8_6 hb86 X8_6
        replace hG := hG.keep X8_6 (by simp)
        replace hH := hH.keep0 X8_6
        replace hown := own_keep hown X8_6 (by simp)
        have hown0 := hown
        refine s_append Tryd.underlying51 ty43 rfl (by decide) rfl rfl rfl hown rfl (hs_lit [Sp.root (hs.drop k)] hb86 (by simpa using root_ok _ _ (Nat.le_refl _) o2) rfl).rd (natsC_one _ _) (by simp only [maxLen]; omega) (by omega) (by have := X8_6.size; omega) ?_
        intro v9 w9 H8_7 X8_7 F8_7
        have hown := H8_7
        refine s_val rfl rfl (runs_assign rfl) ?_
        refine s_val rfl rfl (runs_assign rfl) ?_
        refine s_nil ?_
        refine hK13 _ _ ?_
        refine c_ret ?_
        refine hret _ _ ?_
        refine ends2 (reads_tmp rfl) (reads_tmp rfl) ⟨_, rfl, ?_, ?_⟩
        · rw [Sp.path_lo hs i (by omega) (by rw [hlen, ← hk]; omega), hlen, ← hk]
          simpa [natsC_append] using own_base hown (by omega)
        · exact ((((X5_2.trans X7_5).trans X8_5).trans X8_6).trans X8_7).mono (by intro k' hk' hlt; simp at hk'; have := (hown0.lt k' hk').1; omega)
      · refine c_skip ?_
        refine hK9 _ _ ?_
        refine c_seqreg (fun K17 hK17 => ?_)
        refine s_val rfl rfl (runs_move rfl) ?_
        refine s_val rfl rfl (runs_move rfl) ?_
        refine s_val rfl rfl (runs_move rfl) ?_
        refine s_val rfl rfl (runs_as (v' := .int .i64 ((i - k : Nat) : Int)) (runs_sub64 rfl rfl (by omega)) (congrArg (Value.int .i64) (by omega))) ?_
        refine s_val rfl rfl (runs_move rfl) ?_
        refine s_val rfl rfl (runs_move rfl) ?_
        refine s_val rfl rfl (runs_slice_from (k) Tryd.underlying51 ty43 rfl rfl (by omega) (by omega)) ?_
        refine s_callf (xs := [.tmp 48, .tmp 51, .tmp 54]) rfl rfl Tryd.func30 rfl (by kernel_rfl) rfl (ih (hs.drop k) (by omega) B (i - k) _ (n - k) (c - k) _ hG (by omega) (hH.from_ k (by omega)) (by omega) (by omega)) ?_
        rintro _ w7 ⟨vp, rfl, hown, X9_7⟩
        replace hG := hG.keep X9_7 (by simp)
        replace hH := hH.keep0 X9_7
        have zs9_7 := X9_7.size
        have hz7 := X9_7.size
        refine s_val rfl rfl (runs_move rfl) ?_
        refine s_val rfl rfl (runs_extract rfl rfl) ?_
        refine s_val rfl rfl (runs_extract rfl rfl) ?_
        refine s_val rfl rfl (runs_assign rfl) ?_
        refine s_val rfl rfl (runs_assign rfl) ?_
        refine s_nil ?_
        have hpl := Sp.path_len (hs.drop k) (i - k)
        refine hK17 _ _ ?_
        refine c_seqreg (fun K19 hK19 => ?_)
        refine s_val rfl rfl (runs_move rfl) ?_
        refine s_val rfl rfl (runs_move rfl) ?_
        refine s_val rfl rfl (runs_move rfl) ?_
        refine s_val rfl rfl (runs_move rfl) ?_
        refine s_val rfl rfl (runs_slice_to (k) Tryd.underlying51 ty43 rfl rfl (by omega) (by omega)) ?_
        refine s_callf (xs := [.tmp 59, .tmp 62]) rfl rfl Tryd.func19 rfl (by kernel_rfl) rfl (root0 hG (by omega) (hH.to_ k (by omega)) (by omega)) ?_
        rintro _ w8 ⟨rfl, X10_5⟩
        replace hG := hG.keep X10_5 (by simp)
        replace hH := hH.keep0 X10_5
        replace hown := own_keep hown X10_5 (by simp)
        have zs10_5 := X10_5.size
        have hz8 := X10_5.size
        refine s_lit (xs := [.tmp 63]) Tryd.underlying51 ty43 rfl rfl rfl rfl rfl (hv_sz (l := [Sp.root (hs.take k)]) (by simpa using root_ok _ _ (Nat.le_refl _) o1)) (by decide) (by decide) ?_
        intro b86 w86 e10_6 z10_6 hb86 X10_6
        replace hG := hG.keep X10_6 (by simp)
        replace hH := hH.keep0 X10_6
        replace hown := own_keep hown X10_6 (by simp)
        have hown0 := hown
        refine s_append Tryd.underlying51 ty43 rfl (by decide) rfl rfl rfl hown rfl (hs_lit [Sp.root (hs.take k)] hb86 (by simpa using root_ok _ _ (Nat.le_refl _) o1) rfl).rd (natsC_one _ _) (by simp only [maxLen]; omega) (by omega) (by have := X10_6.size; omega) ?_
        intro v9 w9 H10_7 X10_7 F10_7
        have hown := H10_7
        refine s_val rfl rfl (runs_assign rfl) ?_
        refine s_val rfl rfl (runs_assign rfl) ?_
        refine s_nil ?_
        refine hK19 _ _ ?_
        refine c_ret ?_
        refine hret _ _ ?_
        refine ends2 (reads_tmp rfl) (reads_tmp rfl) ⟨_, rfl, ?_, ?_⟩
        · rw [Sp.path_hi hs i (by omega) (by rw [hlen, ← hk]; omega) (by omega), hlen, ← hk]
          simpa [natsC_append] using own_base hown (by omega)
        · exact ((((X5_2.trans X9_7).trans X10_5).trans X10_6).trans X10_7).mono (by intro k' hk' hlt; simp at hk'; have := (hown0.lt k' hk').1; omega)
end Go.Proofs.YtlkeofjgmegcfaaDoor
