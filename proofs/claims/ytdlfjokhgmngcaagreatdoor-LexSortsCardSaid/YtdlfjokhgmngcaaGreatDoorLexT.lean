/- A range over the lexer's iterator: the law, told with what the iterator asks of the body. -/
import Derived.Test.YtdlfjokhgmngcaaGreatDoorLexS
import Derived.RangeFuncKeeps
import Derived.RangeFuncBox
namespace Go.Proofs.YtdlfjokhgmngcaaGreatDoor.Lx
open Go.RowKit Go.Shelf Go.Proofs.YtdlfjokhgmngcaaGreatDoorW.PrintWords
set_option linter.unusedVariables false
set_option linter.unusedSimpArgs false

/-- What a caller says of its own variables between two rounds: its word keeps under the iterator's steps and under the loop's book-keeping. -/
structure Inv (b pb n0 : Nat) (I : List Tok → World → Prop) : Prop where
  fr : ∀ pre A B, I pre A → n0 ≤ A.heap.size → Fr b A B → I pre B
  book : ∀ pre A l o o', I pre A → n0 ≤ l → A.heap[l]? = some o → o.isCells = false → I pre (A.putObj l o')

theorem putObj_kp {b pb n0 : Nat} {A : World} {l : Nat} {o' : Obj} (hl : n0 ≤ l) (hb : b < n0) (hp : pb < n0) (h0 : 8 < n0) : Kp b pb A (A.putObj l o') :=
  ⟨by rw [World.putObj_size]; exact Nat.le_refl _, World.putObj_heap_other (by omega), World.putObj_heap_other (by omega), World.putObj_heap_other (by omega), World.putObj_heap_other (by omega)⟩
theorem Kp.trans {b pb : Nat} {A B C : World} (h : Kp b pb A B) (k : Kp b pb B C) : Kp b pb A C :=
  ⟨Nat.le_trans h.size k.size, k.lx.trans h.lx, k.box.trans h.box, k.tab.trans h.tab, k.err.trans h.err⟩
theorem Kp.alloc {b pb n0 : Nat} {A : World} (o : Obj) (hA : n0 ≤ A.heap.size) (hb : b < n0) (hp : pb < n0) (h0 : 8 < n0) : Kp b pb A (A.alloc o) :=
  have hg := World.grownBy_alloc A o none
  ⟨hg.size, hg.block _ (by omega) (by simp), hg.block _ (by omega) (by simp), hg.block _ (by omega) (by simp), hg.block _ (by omega) (by simp)⟩

theorem wpIn_range_toks {g : Operand} {t : Tmp} {assign body : Code} {Q : Exit → Act → World → Prop} {a : Act} {w : World} {gf : Nat} {lb : Array Value}
    (hg : a.eval g = .func (.func gf) #[] lb) (eg : ∀ args w, (callFunc gf args).run Tryz.prog w = .ok (.enter gf args) w)
    {b pb N : Nat} {s : ByteArray} (hbw : b < w.heap.size) (hpw : pb < w.heap.size) (h0 : 8 < w.heap.size)
    (hseq : ∀ (l : Nat) (J : List Tok → World → Prop) (W : World), Rounds l b pb N J → w.grownBy W none → J [] W → Calls Tryz.prog gf (#[.func (.yield l) #[] #[]] ++ lb) W fun e W' => e = .returned (.tuple #[]) ∧ Ended b s J W')
    (I : List Tok → World → Prop) (hI : Inv b pb w.heap.size I) (hI0 : ∀ W, w.grownBy W none → I [] W)
    (w1 : Tok → World → World) (u : Tmp)
    (hw1 : ∀ pre x W, I pre W → w.heap.size + 2 ≤ W.heap.size → I pre (w1 x W) ∧ KeepsOthers W (w1 x W) ∧ Kp b pb W (w1 x W))
    (hassign : ∀ (l : Nat) (x : Tok) (W : World) (K : Act → World → Prop), K { tmps := (a.tmps.setIfInBounds t x.val).setIfInBounds u (.pointer (some ⟨W.heap.size, 0, none⟩)), defers := [] } (w1 x W) →
      assign.wpIn (Fence.wide.inRound l) 2 Tryz.prog (Exit.then K (fun _ _ _ => False)) { tmps := a.tmps.setIfInBounds t x.val, defers := [] } W)
    (hbody : ∀ (l : Nat) (pre : List Tok) (x : Tok) (W : World) (o : Obj), w.heap.size ≤ l → l < W.heap.size → I pre W → w.heap.size + 2 ≤ W.heap.size → pre.length < N → I pre ((w1 x W).putObj l o) → 
      body.wpIn (Fence.wide.inRound l) 2 Tryz.prog (fun e _ W' => e = .normal ∧ KeepsOthers ((w1 x W).putObj l o) W' ∧ Kp b pb ((w1 x W).putObj l o) W' ∧ I (pre ++ [x]) W') { tmps := (a.tmps.setIfInBounds t x.val).setIfInBounds u (.pointer (some ⟨W.heap.size, 0, none⟩)), defers := [] } ((w1 x W).putObj l o))
    (hdone : ∀ (D : Nat) (W : World), Ended b s I W → w.heap.size ≤ D → W.heap[D]? = some (.deferred (some [])) → Q .normal { a with defers := { target := .collected D, args := #[] } :: a.defers } W) :
    (Code.rangeFunc g #[t] assign body).wpIn Fence.wide 4 Tryz.prog Q a w := by
  refine wpIn_rangeFunc ?_
  intro fn hfn
  obtain ⟨rec, hrec⟩ : ∃ rec : LoopState → Option Code → Loop, rec = fun st pe => { state := st, pending := pe, fn, tmps := a.tmps, params := #[t], assign, body, defers := w.heap.size } := ⟨_, rfl⟩
  obtain ⟨W1, hW1⟩ : ∃ W1, (w.alloc (.deferred (some []))).alloc (.loop (rec .ready none)) = W1 := ⟨_, rfl⟩
  have hL1 : W1.heap[w.heap.size + 1]? = some (.loop (rec .ready none)) := by
    rw [← hW1]; have := World.alloc_heap_new (w.alloc (.deferred (some []))) (.loop (rec .ready none)); rwa [World.size_alloc] at this
  have hK1 : W1.heap[w.heap.size]? = some (.deferred (some [])) := by
    rw [← hW1]; exact (Below.heap_alloc _ _ _ (by simp)).trans (World.alloc_heap_new w _)
  have hg1 : w.grownBy W1 none := by rw [← hW1]; exact World.grownBy.trans (World.grownBy_alloc w _ _) (World.grownBy_alloc _ _ _)
  have hR : Rounds (w.heap.size + 1) b pb N (fun pre W => I pre W ∧ W.heap[w.heap.size + 1]? = some (.loop (rec .ready none)) ∧ W.heap[w.heap.size]? = some (.deferred (some []))) := by
    refine ⟨?_, ?_⟩
    · rintro pre A B ⟨h1, h2, h3⟩ hF
      have hA : w.heap.size + 1 < A.heap.size := (Array.getElem?_eq_some_iff.1 h2).1
      exact ⟨hI.fr _ _ _ h1 (by omega) hF, hF.blk h2 (by omega), hF.blk h3 (by omega)⟩
    · rintro pre x W ⟨hi, hl, hk⟩ hlen
      have hlt : w.heap.size + 1 < W.heap.size := (Array.getElem?_eq_some_iff.1 hl).1
      have hy := run_yield (P := Tryz.prog) (args := #[x.val]) hl (by rw [hrec]; rfl)
      rw [hrec] at hy
      replace hy : (Instr.yield (w.heap.size + 1) #[x.val]).run Tryz.prog W = .ok (.round (w.heap.size + 1) fn (a.tmps.setIfInBounds t x.val) assign body) W := by simpa using hy
      obtain ⟨hi1, hk1, hp1⟩ := hw1 pre x W hi (by omega)
      have hl1 : (w1 x W).heap[w.heap.size + 1]? = some (.loop (rec .ready none)) := hk1.same _ _ hl rfl
      have hk1' : (w1 x W).heap[w.heap.size]? = some (.deferred (some [])) := hk1.same _ _ hk rfl
      refine ⟨fn, _, assign, body, hy, roundIn_of_wpIn hfn (hassign _ x W _ ?_)⟩
      refine ⟨_, run_beginRound hl1 (by rw [hrec]), ?_⟩
      have hlt1 : w.heap.size + 1 < (w1 x W).heap.size := (Array.getElem?_eq_some_iff.1 hl1).1
      have hl2 : ((w1 x W).putObj (w.heap.size + 1) (.loop { rec .ready none with state := .busy })).heap[w.heap.size + 1]? = some (.loop { rec .ready none with state := .busy }) := World.putObj_heap_same hlt1
      have hk2 : ((w1 x W).putObj (w.heap.size + 1) (.loop { rec .ready none with state := .busy })).heap[w.heap.size]? = some (.deferred (some [])) := (World.putObj_heap_other (by omega)).trans hk1'
      refine wpIn_mono (hbody (w.heap.size + 1) pre x W (.loop { rec .ready none with state := .busy }) (by omega) hlt hi (by omega) hlen (hI.book _ _ _ _ _ hi1 (by omega) hl1 rfl)) ?_
      rintro e a3 W3 ⟨rfl, hk3, hp3, hi3⟩
      have hl3 := hk3.same _ _ hl2 rfl
      have hk4 := hk3.same _ _ hk2 rfl
      have hr := run_endRound (P := Tryz.prog) none hl3
      refine ⟨_, _, hr, rfl, ⟨hI.book _ _ _ _ _ hi3 (by omega) hl3 rfl, ?_, (World.putObj_heap_other (by omega)).trans hk4⟩, ?_⟩
      · have := World.putObj_heap_same (w := W3) (o := .loop { { rec .ready none with state := .busy } with state := if (none : Option Code).isNone then .ready else .done, pending := none }) (Array.getElem?_eq_some_iff.1 hl3).1
        rw [this, hrec]
        rfl
      · exact (hp1.trans (putObj_kp (n0 := w.heap.size) (by omega) hbw hpw h0)).trans (hp3.trans (putObj_kp (n0 := w.heap.size) (by omega) hbw hpw h0))
  refine ⟨w.heap.size + 1, [{ target := .collected w.heap.size, args := #[] }], W1, { target := .fn (.func gf) lb, args := #[.func (.yield (w.heap.size + 1)) #[] #[]] }, W1, gf,
    #[.func (.yield (w.heap.size + 1)) #[] #[]] ++ lb, W1, ?_, ?_, ?_, ?_, fun _ => by omega, ?_⟩
  · rw [← hW1, hrec]; exact run_enterLoop_outer _ _ _ _ _
  · simp only [resolve, hg]
    simp [go_sem]
  · intro f' hf'; trivial
  · simp [invoke, go_sem, eg]
  · refine (callsIn_wide.2 (hseq (w.heap.size + 1) _ W1 hR hg1 ⟨hI0 _ hg1, hL1, hK1⟩)).mono ?_
    · rintro e W2 ⟨rfl, ⟨hi, hl, hk⟩, i2, p', l', v, hx, hv⟩
      refine ⟨none, _, by have := run_endLoop (P := Tryz.prog) hl (by rw [hrec]; simp); rw [hrec] at this; exact this, hdone w.heap.size _ ⟨hI.book _ _ _ _ _ hi (by omega) hl rfl, i2, p', l', v, ?_, ?_⟩ (Nat.le_refl _) ((World.putObj_heap_other (by omega)).trans hk)⟩
      · exact (World.putObj_heap_other (by omega)).trans hx
      · cases hr : (lexL s.data.toList).2 with
        | none => rw [hr] at hv; exact hv
        | some cp =>
          obtain ⟨c, pl⟩ := cp
          rw [hr] at hv
          obtain ⟨g3, e3, hg3⟩ := hv
          refine ⟨g3, e3, (World.putObj_heap_other ?_).trans hg3⟩
          rintro rfl
          rw [hl] at hg3
          cases hg3
end Go.Proofs.YtdlfjokhgmngcaaGreatDoor.Lx
