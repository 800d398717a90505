/- told and same, where they say yes. -/
import Derived.Test.YtdlfjokhgmngcaaGreatDoorLexW
namespace Go.Proofs.YtdlfjokhgmngcaaGreatDoor.Lx
open Go.RowKit Go.Shelf Go.Proofs.YtdlfjokhgmngcaaGreatDoorW.PrintWords
set_option linter.unusedVariables false
set_option linter.unusedSimpArgs false

/-- The variable of errors, as it is laid. -/
def LaidE (w : World) : Prop := w.cell? ⟨0, 0, none⟩ = some (.iface 125 (.agg #[.pointer (some ⟨10, 26, none⟩)]))

theorem LaidE.keep {w w' : World} (h : LaidE w) (hb : Below w.heap.size w w') : LaidE w' := by
  have hlt : 0 < w.heap.size := by
    rcases Nat.lt_or_ge 0 w.heap.size with h2 | h2
    · exact h2
    · simp [LaidE, World.cell?, Array.getElem?_eq_none h2] at h
  unfold LaidE at h ⊢
  simp only [World.cell?, hb.block _ hlt] at h ⊢
  exact h

theorem as_fr (g t : Nat) (old : Value) (T : TypeId) (w : World) (hE : LaidE w) (ht : w.heap[t]? = some (.cells #[old] T (0, 0))) :
    Calls Tryz.prog 27 #[.iface 56 (.pointer (some ⟨g, 0, none⟩)), .iface 80 (.pointer (some ⟨t, 0, none⟩))] w fun ev w' => ev = .returned (.bool true) ∧ w'.cell? ⟨t, 0, none⟩ = some (.pointer (some ⟨g, 0, none⟩)) ∧ Fr t w w' := by
  have htl := blk_lt ht
  refine (as_hit ⟨g, 0, none⟩ ⟨t, 0, none⟩ old w hE (blk_cell ht 0) (blk_frozen ht 0)).mono ?_
  rintro e w' ⟨rfl, rfl⟩
  refine ⟨rfl, ?_, ((((Fr.refl t w).alloc _).alloc _).alloc _).alloc _ |>.set _ _⟩
  exact blk_cell (blk_set (blk_alloc (blk_alloc (blk_alloc (blk_alloc ht _) _) _) _) 0 _) 0

set_option maxRecDepth 100000 in
set_option maxHeartbeats 6400000 in
theorem told_ok (p : Int) (w : World) :
    Calls Tryz.prog 13 #[.nilIface, .agg #[.int .i64 0, .int .i64 p]] w fun e w' => e = .returned (.bool true) ∧ Below w.heap.size w w' := by
  go_enter Tryz.func13, Tryz.ntmps13
  go_wp2
  go_ret
  exact ⟨rfl, (Below.refl _ w).alloc (Nat.le_refl _) _⟩

set_option maxRecDepth 100000 in
set_option maxHeartbeats 6400000 in
theorem told_hit (g : Nat) (c p : Int) (w : World) (hE : LaidE w) (hg : w.heap[g]? = some (.cells #[.int .i64 c, .int .i64 p] 37 (0, 0))) (hc : c ≠ 0) :
    Calls Tryz.prog 13 #[.iface 56 (.pointer (some ⟨g, 0, none⟩)), .agg #[.int .i64 c, .int .i64 p]] w fun e w' => e = .returned (.bool true) ∧ Below w.heap.size w w' := by
  have hgl := blk_lt hg
  have hd : decide (c = 0) = false := decide_eq_false hc
  obtain ⟨W, hW⟩ : ∃ W, (w.alloc (.cells #[.int .i64 c, .int .i64 p] 37)).alloc (.cells #[.pointer none] 56) = W := ⟨_, rfl⟩
  have hWs : W.heap.size = w.heap.size + 2 := by rw [← hW]; simp
  have hb : Below w.heap.size w W := by rw [← hW]; exact ((Below.refl _ w).alloc (Nat.le_refl _) _).alloc (by simp) _
  have ht : W.heap[w.heap.size + 1]? = some (.cells #[.pointer none] 56 (0, 0)) := by
    rw [← hW]
    have := blk_new (w.alloc (.cells #[.int .i64 c, .int .i64 p] 37)) (.cells #[.pointer none] 56)
    simpa using this
  have hf : W.heap[w.heap.size]? = some (.cells #[.int .i64 c, .int .i64 p] 37 (0, 0)) := by
    rw [← hW]; exact blk_alloc (blk_new w _) _
  have hg2 : W.heap[g]? = some (.cells #[.int .i64 c, .int .i64 p] 37 (0, 0)) := (hb.block g hgl).trans hg
  have hE2 : LaidE W := hE.keep hb
  have HB := Aside0.mk hb
  have HAs := Aside0.mk (as_fr g (w.heap.size + 1) (.pointer none) 56 W.drew hE2 ht)
  have HG := Aside0.mk hg2
  have HFf := Aside0.mk hf
  clear hg hf ht hE hE2 hg2 hb
  go_enter Tryz.func13, Tryz.ntmps13
  go_wp2
  clear hW
  have y0 : W.cell? ⟨w.heap.size, 0, none⟩ = some (.int .i64 c) := blk_cell HFf.out 0
  have hIs : ∀ w', Fr (w.heap.size + 1) W w' → Calls Tryz.prog 28 #[.iface 56 (.pointer (some ⟨g, 0, none⟩)), .iface 35 (.int .i64 c)] w' fun e w'' => e = .returned (.bool true) ∧ w'' = w' := fun w' h => is_hit g c w' (blk_cell (h.blk HG.out (by omega)) 0)
  have HIs := Aside0.mk hIs
  clear hIs
  go_region_with (first
    | (go_at_call 27; refine HAs.out.mono ?_; rintro e w1 ⟨rfl, hc1, hF1⟩; have HF1 := Aside0.mk (((Fr.refl _ W).drew).trans hF1); have k0 : w1.cell? ⟨g, 0, none⟩ = some (.int .i64 c) := blk_cell (HF1.out.blk HG.out (by omega)) 0; have k1 : w1.cell? ⟨g, 1, none⟩ = some (.int .i64 p) := blk_cell (HF1.out.blk HG.out (by omega)) 1; have k2 : w1.cell? ⟨w.heap.size, 0, none⟩ = some (.int .i64 c) := blk_cell (HF1.out.blk HFf.out (by omega)) 0; have k3 : w1.cell? ⟨w.heap.size, 1, none⟩ = some (.int .i64 p) := blk_cell (HF1.out.blk HFf.out (by omega)) 1; clear hF1)
    | (go_at_call 28; refine (HIs.out _ HF1.out).mono ?_; rintro e w2 ⟨rfl, rfl⟩))
  all_goals
    go_wp2
    go_ret
    exact ⟨rfl, HB.out.grown HF1.out.out HB.out.size (fun k e => by cases e; omega)⟩
end Go.Proofs.YtdlfjokhgmngcaaGreatDoor.Lx
