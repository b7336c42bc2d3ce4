/- Part AllIt of the proofs on this seat. Conditions: none beyond those in the theorems. By an AI agent. -/
import Derived.Test.YtmmijecookbajaaDoorOf
import Derived.Test.YtmmijecookbajaaDoorCR
namespace Go.Proofs.YtmmijecookbajaaDoor
open Go Go.RowKit

/-- (*Tape).All, given a yield: what holds between two rounds is carried on, or a round says 'no more'. -/
theorem all_calls {l bt : Nat} {a : Option Addr} {n c : Nat} {vs : List Value} {w : World} {r : Loop} (I : Nat → World → Prop) (Ix : World → Prop) (hp : r.params.size = 1)
    (hrd : ∀ i W, I i W → W.heap[l]? = some (.loop r) ∧ SlR W 1 a n c vs) (hbt : Blk w bt [.slice a n c] 53) (h0 : I 0 w)
    (hround : ∀ i u W, vs[i]? = some u → I i W → Rnd Tryd.prog l r.fn ((r.params.zip #[u]).foldl (fun tmps (t, a) => tmps.setIfInBounds t a) r.tmps) r.assign r.body W fun b W' => (b = true → I (i + 1) W') ∧ (b = false → Ix W')) :
    CallsR Tryd.prog 24 #[.pointer (some ⟨bt, 0, none⟩), .func (.yield l) #[] #[]] w fun _ W => I n W ∨ Ix W := by
  have hvn : vs.length = n := by have := (hrd 0 w h0).2.len; omega
  have hcn := (hrd 0 w h0).2.le
  have hcm := (hrd 0 w h0).2.mx
  unfold maxLen at hcm
  refine f_enter (l := [.pointer (some ⟨bt, 0, none⟩), .func (.yield l) #[] #[]]) Tryd.func24 rfl rfl rfl rfl ?_
  intro Qf hnrm hret
  refine c_seq (fun K1 hK1 => ?_)
  refine c_seqreg (fun K2 hK2 => ?_)
  refine s_val rfl rfl (runs_move rfl) ?_
  refine s_val rfl rfl (runs_ptr_eq_nil Tryd.underlying50 rfl rfl) ?_
  refine s_nil ?_
  refine hK2 _ _ ?_
  refine c_false rfl ?_
  refine c_skip ?_
  refine hK1 _ _ ?_
  refine c_seqreg (fun K3 hK3 => ?_)
  refine s_val rfl rfl (runs_move rfl) ?_
  refine s_val rfl rfl (runs_nilCheck rfl) ?_
  refine s_val rfl rfl (runs_fieldAddr Tryd.underlying53 rfl ty51 (by decide) rfl) ?_
  refine s_val rfl rfl (runs_load1 ty51 rfl (hbt.c1 (j := 0) rfl)) ?_
  refine s_val rfl rfl (runs_len_slice Tryd.underlying51 rfl) ?_
  refine s_val rfl rfl (runs_move rfl) ?_
  refine s_nil ?_
  refine hK3 _ _ ?_
  refine c_block ?_
  refine c_loop (σ := Nat) (fun i => [(13, .int .i64 (i : Int)), (12, .int .i64 (n : Int)), (11, .slice a n c), (1, .func (.yield l) #[] #[])]) (fun i w' => i ≤ n ∧ I i w') (fun i => n - i) 0 ⟨rfl, rfl, rfl, rfl, trivial⟩ ⟨Nat.zero_le _, h0⟩ ?_
  rintro i w1 ⟨hi, hI⟩
  refine c_seqreg (fun K4 hK4 => ?_)
  refine s_val rfl rfl (runs_lt rfl rfl) ?_
  refine s_nil ?_
  refine hK4 _ _ ?_
  refine c_seq (fun K5 hK5 => ?_)
  refine c_dec rfl (fun hin => ?_) (fun hin => ?_)
  · obtain ⟨hl, hvs⟩ := hrd i w1 hI
    obtain ⟨ba, oa, rfl⟩ := hvs.some_ (by omega)
    obtain ⟨u, hu⟩ : ∃ u, vs[i]? = some u := ⟨_, List.getElem?_eq_getElem (by omega)⟩
    refine c_skip ?_
    refine hK5 _ _ ?_
    refine c_seq (fun K6 hK6 => ?_)
    refine c_block ?_
    refine c_seqreg (fun K7 hK7 => ?_)
    refine s_val rfl rfl (runs_index_slice (i) Tryd.underlying51 ty47 rfl rfl (by omega) (by omega)) ?_
    refine s_val rfl rfl (runs_load1 ty47 rfl (hvs.elem1 hu)) ?_
    refine s_val rfl rfl (runs_assign rfl) ?_
    refine s_nil ?_
    refine hK7 _ _ ?_
    refine c_seq (fun K8 hK8 => ?_)
    refine c_yreg ?_
    refine y_val rfl rfl (runs_move rfl) ?_
    refine y_val rfl rfl (runs_move rfl) ?_
    refine y_call rfl rfl rfl rfl hl hp ?_
    refine RoundIn.mono (hround i u w1 hu hI) fun e w2 ⟨b, he, hb⟩ => ⟨b, he, ?_⟩
    refine y_val rfl rfl (runs_not rfl) ?_
    refine y_nil ?_
    dsimp only [Post.setN]
    refine hK8 _ _ ?_
    refine c_if rfl (fun hbb => ?_) (fun hbb => ?_)
    all_goals (cases b <;> simp at hbb)
    · refine c_ret ?_
      refine hret _ _ ?_
      exact ends0 (.inr (hb.2 rfl))
    · refine c_skip ?_
      refine hK6 _ _ ?_
      refine c_reg ?_
      refine s_val rfl rfl (runs_add64 rfl rfl (by omega)) ?_
      refine s_val rfl rfl (runs_move rfl) ?_
      refine s_nil ?_
      dsimp only [Post.setN]
      exact ⟨i + 1, ⟨rfl, rfl, rfl, rfl, trivial⟩, ⟨by omega, hb.1 rfl⟩, by omega⟩
  · refine c_exit ?_
    refine hnrm _ _ ?_
    obtain rfl : i = n := by omega
    exact ends0 (.inl hI)
theorem all_nil {l : Nat} {w : World} : CallsR Tryd.prog 24 #[.pointer none, .func (.yield l) #[] #[]] w fun _ W => W = w := by
  refine f_enter (l := [.pointer none, .func (.yield l) #[] #[]]) Tryd.func24 rfl rfl rfl rfl ?_
  intro Qf hnrm hret
  refine c_seq (fun K1 hK1 => ?_)
  refine c_seqreg (fun K2 hK2 => ?_)
  refine s_val rfl rfl (runs_move rfl) ?_
  refine s_val rfl rfl (runs_nil_eq_nil Tryd.underlying50 rfl rfl) ?_
  refine s_nil ?_
  refine hK2 _ _ ?_
  refine c_true rfl ?_
  refine c_ret ?_
  refine hret _ _ ?_
  exact ends0 rfl
end Go.Proofs.YtmmijecookbajaaDoor
