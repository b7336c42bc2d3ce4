/- Part StC of the proofs on this seat. Conditions: none beyond those in the theorems. By an AI agent. -/
import Derived.Test.YtmmijecookbajaaDoorStB
import Derived.Test.YtmmijecookbajaaDoorLaw1
import Derived.Test.YtmmijecookbajaaDoorColl
namespace Go.Proofs.YtmmijecookbajaaDoor
open Go Go.RowKit

section
variable {w : World} {B lo : Nat} {l : List Nat} {tv : Value} {ts : TS}
theorem TG.anone (h : TG w B lo w.heap.size l tv ts) (hG : GH B w) (hB : B ≤ w.heap.size) (hlo : lo ≤ w.heap.size) (hl : ∀ x ∈ l, x < w.heap.size) (htl : ts.len ≤ 1073741824) :
    CallsR Tryd.prog 19 #[tv] w fun v w' => v = hv Sp.anone ∧ ∃ ts', TP w w' B lo l tv ts ts' [[4]] :=
  (none_calls B _ tv ts w hG hB h.arg (fun _ hk => hk.2.1) htl).mono fun _ _ ⟨e, ts', p⟩ => ⟨e, ts', TP.of p hlo hl⟩
theorem TG.aleaf (h : TG w B lo w.heap.size l tv ts) (hG : GH B w) (hB : B ≤ w.heap.size) (hlo : lo ≤ w.heap.size) (hl : ∀ x ∈ l, x < w.heap.size) {r : Ac} (hr : r.Num) (htl : ts.len ≤ 1073741824) :
    CallsR Tryd.prog 23 #[tv, av r] w fun v w' => v = hv (Sp.aleaf r) ∧ ∃ ts', TP w w' B lo l tv ts ts' [2 :: Sp.acB r] :=
  (aleaf_calls B _ tv ts r w hG hB hr h.arg (fun _ hk => hk.2.1) htl).mono fun _ _ ⟨e, ts', p⟩ => ⟨e, ts', TP.of p hlo hl⟩
theorem TG.aroot (h : TG w B lo w.heap.size l tv ts) (hG : GH B w) (hB : B ≤ w.heap.size) (hlo : lo ≤ w.heap.size) (hl : ∀ x ∈ l, x < w.heap.size) {a : Option Addr} {n c k : Nat} {acs : List Ac} (hw : Wf k acs) (hR : AcR w a n c acs) (ho : ∀ p, a = some p → p.block < lo ∨ p.block ∈ l) (hn : n ≤ 1000) (htl : ts.len ≤ 1000000000) :
    CallsR Tryd.prog 15 #[tv, .int .i64 (k : Int), .slice a n c] w fun v w' => v = hv (Sp.aroot k acs) ∧ ∃ ts', TP w w' B lo l tv ts ts' (Sp.anotes k acs) :=
  (aroot_calls _ k acs (Nat.lt_succ_self _) B _ tv ts a n c w (h.pre hG hB) hw hR (fun p hp hm => by
    have h1 := h.foot _ hm
    rcases ho p hp with h2 | h2
    · have := h1.1; omega
    · exact h1.2.2 h2) hn (by have := anotes_few hw (by rw [hR.len]; exact hn); omega)).mono fun _ _ ⟨e, ts', p⟩ => ⟨e, ts', TP.of p hlo hl⟩
end
section
variable {w : World} {B lo hi : Nat} {l : List Nat} {bt : Nat} {vt : Value} {L : List (List Nat)}
theorem TL.aroot (h : TL w B lo hi l bt vt L) (ns : List Nat) (hns : ∀ x ∈ ns, hi ≤ x ∧ x < w.heap.size) (hG : GH B w) (hB : B ≤ w.heap.size)
    {a : Option Addr} {n c k : Nat} {acs : List Ac} (hw : Wf k acs) (hR : AcR w a n c acs) (ho : ∀ p, a = some p → p.block < lo ∨ p.block ∈ ns ++ l) (hn : n ≤ 1000) (htl : L.length ≤ 1000000000) :
    CallsR Tryd.prog 15 #[.pointer (some ⟨bt, 0, none⟩), .int .i64 (k : Int), .slice a n c] w fun v w' => v = hv (Sp.aroot k acs) ∧ ∃ vt', TC w w' B lo (ns ++ l) bt vt vt' L (Sp.anotes k acs) := by
  have h1 := h.add ns hns
  exact (h1.tg.aroot hG hB h1.base h1.lt hw hR ho hn (by simpa [TS.len] using htl)).mono fun _ _ ⟨e, _, p⟩ => ⟨e, h1.after p⟩
end
end Go.Proofs.YtmmijecookbajaaDoor
namespace Go.Proofs.YtmmijecookbajaaDoor
open Go Go.RowKit

theorem numB_inj {x y : Nm} (hx : NOk x) (hy : NOk y) (h : Sp.numB x = Sp.numB y) : x = y := by
  obtain ⟨x1, x2⟩ := x
  obtain ⟨y1, y2⟩ := y
  simp only [NOk] at hx hy
  simp [Sp.numB, List.range_succ] at h
  rw [Prod.mk.injEq]
  omega
theorem sixB {x : Int} (hx : 0 ≤ x ∧ x ≤ 281474976710655) : x = (x / 1099511627776 % 256) * 1099511627776 + (x / 4294967296 % 256) * 4294967296 + (x / 16777216 % 256) * 16777216 + (x / 65536 % 256) * 65536 + (x / 256 % 256) * 256 + x % 256 := by
  omega
theorem toNat_eq {a b : Int} (h : (a % 256).toNat = (b % 256).toNat) : a % 256 = b % 256 := by omega
theorem int6_inj {x y : Int} (hx : 0 ≤ x ∧ x ≤ 281474976710655) (hy : 0 ≤ y ∧ y ≤ 281474976710655) (h : Sp.intB 6 x = Sp.intB 6 y) : x = y := by
  simp [Sp.intB, List.range_succ] at h
  obtain ⟨h0, h1, h2, h3, h4, h5⟩ := h
  have e0 := toNat_eq h0
  have e1 := toNat_eq h1
  have e2 := toNat_eq h2
  have e3 := toNat_eq h3
  have e4 := toNat_eq h4
  have e5 := toNat_eq h5
  rw [sixB hx, sixB hy, e0, e1, e2, e3, e4, e5]
theorem int4_inj {x y : Int} (hx : 0 ≤ x ∧ x ≤ 4294967295) (hy : 0 ≤ y ∧ y ≤ 4294967295) (h : Sp.intB 4 x = Sp.intB 4 y) : x = y := by
  simp [Sp.intB, List.range_succ] at h
  omega
theorem int2_inj {x y : Int} (hx : 0 ≤ x ∧ x ≤ 65535) (hy : 0 ≤ y ∧ y ≤ 65535) (h : Sp.intB 2 x = Sp.intB 2 y) : x = y := by
  simp [Sp.intB, List.range_succ] at h
  omega
theorem acB_inj {a b : Ac} (ha : a.Ok) (hb : b.Ok) (h : Sp.acB a = Sp.acB b) : a = b := by
  unfold Sp.acB at h
  simp only [List.flatMap_cons, List.flatMap_nil, List.append_nil] at h
  obtain ⟨h, h10⟩ := List.append_inj h (by simp [numB_len, intB_len])
  obtain ⟨h, h8⟩ := List.append_inj h (by simp [numB_len, intB_len])
  obtain ⟨h, h4⟩ := List.append_inj h (by simp [numB_len, intB_len])
  obtain ⟨h, h3⟩ := List.append_inj h (by simp [numB_len, intB_len])
  obtain ⟨h1, h2⟩ := List.append_inj h (by simp [numB_len])
  obtain ⟨h4, h5⟩ := List.append_inj h4 (by simp [numB_len])
  obtain ⟨h5, h6⟩ := List.append_inj h5 (by simp [numB_len])
  obtain ⟨h6, h7⟩ := List.append_inj h6 (by simp [numB_len])
  obtain ⟨h8, h9⟩ := List.append_inj h8 (by simp [intB_len])
  have e1 := numB_inj ha.num.id hb.num.id h1
  have e2 := int4_inj ha.ledger hb.ledger h2
  have e3 := int2_inj ha.flags hb.flags h3
  have e4 := numB_inj ha.num.dp hb.num.dp h4
  have e5 := numB_inj ha.num.dq hb.num.dq h5
  have e6 := numB_inj ha.num.cp hb.num.cp h6
  have e7 := numB_inj ha.num.cq hb.num.cq h7
  have e8 := int6_inj ha.time hb.time h8
  have e9 := int6_inj ha.rows hb.rows h9
  cases a; cases b
  simp_all
end Go.Proofs.YtmmijecookbajaaDoor
namespace Go.Proofs.YtmmijecookbajaaDoor
open Go Go.RowKit

/-- The text whose hash a root is. -/
def Sp.atext (k : Nat) (l : List Ac) : List Nat := match l with
  | [] => [4]
  | [a] => 2 :: Sp.acB a
  | l => 3 :: (Sp.aroot (k + 1) (l.take (Sp.lows l k)) ++ Sp.aroot (k + 1) (l.drop (Sp.lows l k)))
theorem atext_two {k : Nat} {l : List Ac} (h : 2 ≤ l.length) : Sp.atext k l = 3 :: (Sp.aroot (k + 1) (l.take (Sp.lows l k)) ++ Sp.aroot (k + 1) (l.drop (Sp.lows l k))) := by
  match l, h with
  | a :: b :: l, _ => rfl
theorem atext_is {k : Nat} {l : List Ac} (h : Wf k l) : Sp.aroot k l = Sp.sha (Sp.atext k l) ∧ Sp.atext k l ∈ Sp.anotes k l := by
  by_cases h2 : 2 ≤ l.length
  · have hk := h.lt h2
    rw [atext_two h2, aroot_two hk h2, anotes_two hk h2]
    exact ⟨rfl, by simp⟩
  · match l, h, h2 with
    | [], h, _ => rw [aroot_nil h.k_le, anotes_nil h.k_le]; exact ⟨rfl, by simp [Sp.atext]⟩
    | [a], h, _ => rw [aroot_one h.k_le, anotes_one h.k_le]; exact ⟨rfl, by simp [Sp.atext]⟩
    | a :: b :: l, _, h2 => simp at h2
end Go.Proofs.YtmmijecookbajaaDoor
namespace Go.Proofs.YtmmijecookbajaaDoor
open Go Go.RowKit

/-- Unlike accounts have unlike roots, or there is a clash. -/
theorem aroot_coll : ∀ (m k : Nat) (l l' : List Ac), 128 - k < m → Wf k l → Wf k l' → (∀ a ∈ l, a.Ok) → (∀ a ∈ l', a.Ok) → Sp.aroot k l = Sp.aroot k l' → l ≠ l' → Sp.Clash (Sp.anotes k l ++ Sp.anotes k l') := by
  intro m
  induction m with
  | zero => intro k l l' h; omega
  | succ m ih =>
    intro k l l' hm h h' ok ok' he hne
    obtain ⟨e1, m1⟩ := atext_is h
    obtain ⟨e2, m2⟩ := atext_is h'
    by_cases ht : Sp.atext k l = Sp.atext k l'
    · by_cases h2 : 2 ≤ l.length
      · by_cases h2' : 2 ≤ l'.length
        · have hk := h.lt h2
          rw [atext_two h2, atext_two h2'] at ht
          obtain ⟨r1, r2⟩ := app32 (List.cons.inj ht).2 (by rw [(aroot_ok _ _).1, (aroot_ok _ _).1])
          rw [anotes_two hk h2, anotes_two hk h2']
          by_cases hl : l.take (Sp.lows l k) = l'.take (Sp.lows l' k)
          · have hd : l.drop (Sp.lows l k) ≠ l'.drop (Sp.lows l' k) := fun hd => hne (by rw [← List.take_append_drop (Sp.lows l k) l, hl, hd, List.take_append_drop])
            exact (ih (k + 1) _ _ (by omega) (h.hi hk) (h'.hi hk) (fun a ha => ok a (List.mem_of_mem_drop ha)) (fun a ha => ok' a (List.mem_of_mem_drop ha)) r2 hd).mono fun z hz => by
              simp only [List.mem_append] at hz ⊢
              rcases hz with hz | hz <;> simp [hz]
          · exact (ih (k + 1) _ _ (by omega) (h.lo hk) (h'.lo hk) (fun a ha => ok a (List.mem_of_mem_take ha)) (fun a ha => ok' a (List.mem_of_mem_take ha)) r1 hl).mono fun z hz => by
              simp only [List.mem_append] at hz ⊢
              rcases hz with hz | hz <;> simp [hz]
        · rw [atext_two h2] at ht
          match l', h2' with
          | [], _ => simp [Sp.atext] at ht
          | [b], _ => simp [Sp.atext] at ht
          | _ :: _ :: _, h2' => simp at h2'
      · by_cases h2' : 2 ≤ l'.length
        · rw [atext_two h2'] at ht
          match l, h2 with
          | [], _ => simp [Sp.atext] at ht
          | [b], _ => simp [Sp.atext] at ht
          | _ :: _ :: _, h2 => simp at h2
        · match l, l', h2, h2', ok, ok', ht, hne with
          | [], [], _, _, _, _, _, hne => exact absurd rfl hne
          | [], [b], _, _, _, _, ht, _ => simp [Sp.atext] at ht
          | [a], [], _, _, _, _, ht, _ => simp [Sp.atext] at ht
          | [a], [b], _, _, ok, ok', ht, hne => exact absurd (by rw [acB_inj (ok a (by simp)) (ok' b (by simp)) (List.cons.inj ht).2]) hne
          | _ :: _ :: _, _, h2, _, _, _, _, _ => simp at h2
          | _, _ :: _ :: _, _, h2', _, _, _, _ => simp at h2'
    · exact ⟨_, List.mem_append.2 (.inl m1), _, List.mem_append.2 (.inr m2), by rw [← e1, ← e2, he], ht⟩
end Go.Proofs.YtmmijecookbajaaDoor
namespace Go.Proofs.YtmmijecookbajaaDoor
open Go Go.RowKit

/-- Of paths alike in length: what they lead to tells them apart, and where they begin, or there is a clash. -/
theorem aclimb_coll (id : Nm) {h h' : List Nat} (okh : HOk h) (okh' : HOk h') : ∀ (ps ps' : List (List Nat)) (k : Nat), ps.length = ps'.length → (∀ x ∈ ps, HOk x) → (∀ x ∈ ps', HOk x) → Sp.aclimb id k ps h = Sp.aclimb id k ps' h' → (ps = ps' ∧ h = h') ∨ Sp.Clash (Sp.aclimbN id k ps h ++ Sp.aclimbN id k ps' h') := by
  intro ps
  induction ps with
  | nil =>
    intro ps' k hl _ _ he
    obtain rfl : ps' = [] := List.eq_nil_of_length_eq_zero (by simpa using hl.symm)
    exact .inl ⟨rfl, he⟩
  | cons p ps ih =>
    intro ps' k hl ok ok' he
    match ps', hl, ok' with
    | q :: qs, hl, ok' =>
      have okp := ok p (by simp)
      have okq := ok' q (by simp)
      have oka := aclimb_ok id h okh ps (k + 1)
      have okb := aclimb_ok id h' okh' qs (k + 1)
      simp only [Sp.aclimb, Sp.aclimbN] at he ⊢
      have step : p = q → Sp.aclimb id (k + 1) ps h = Sp.aclimb id (k + 1) qs h' → (p :: ps = q :: qs ∧ h = h') ∨ Sp.Clash (Sp.aclimbN id (k + 1) ps h ++ Sp.aclimbN id (k + 1) qs h') := fun e1 e2 => by
        rcases ih qs (k + 1) (by simpa using hl) (fun x hx => ok x (by simp [hx])) (fun x hx => ok' x (by simp [hx])) e2 with ⟨h1, h2⟩ | h1
        · exact .inl ⟨by rw [e1, h1], h2⟩
        · exact .inr h1
      by_cases hb : Sp.bit id k = 1
      · simp only [if_pos hb] at he ⊢
        by_cases ht : p ++ Sp.aclimb id (k + 1) ps h = q ++ Sp.aclimb id (k + 1) qs h'
        · obtain ⟨e1, e2⟩ := app32 ht (by rw [okp.1, okq.1])
          exact (step e1 e2).imp (fun z => z) fun c => c.mono fun z hz => by
            simp only [List.mem_append] at hz ⊢
            rcases hz with hz | hz <;> simp [hz]
        · exact .inr ⟨_, by simp, 3 :: (q ++ Sp.aclimb id (k + 1) qs h'), by simp, he, fun e => ht (List.cons.inj e).2⟩
      · simp only [if_neg hb] at he ⊢
        by_cases ht : Sp.aclimb id (k + 1) ps h ++ p = Sp.aclimb id (k + 1) qs h' ++ q
        · obtain ⟨e2, e1⟩ := app32 ht (by rw [oka.1, okb.1])
          exact (step e1 e2).imp (fun z => z) fun c => c.mono fun z hz => by
            simp only [List.mem_append] at hz ⊢
            rcases hz with hz | hz <;> simp [hz]
        · exact .inr ⟨3 :: (Sp.aclimb id (k + 1) ps h ++ p), by simp, 3 :: (Sp.aclimb id (k + 1) qs h' ++ q), by simp, he, fun e => ht (List.cons.inj e).2⟩
end Go.Proofs.YtmmijecookbajaaDoor
