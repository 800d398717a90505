/- sync.Once, for one goroutine, over a block of cells known whole: Do's slow way runs the function once; done, it does nothing. -/
import Derived.Test.YtdlfjokhgmngcaaGreatDoorWWords
import Derived.Test.YtdlfjokhgmngcaaGreatDoorWMore
import Derived.Tactics
import Derived.Tactics2
import Derived.Defers
import Derived.Laws.Pointers
import Derived.Laws.LoneSync
import Derived.RegionTactic
import Derived.RegionCalls
import Derived.ChangeAlike
import Derived.Laws.NewBlocks
import Derived.Outline
import Derived.Test.YtdlfjokhgmngcaaGreatDoorProg
namespace Go.Proofs.YtdlfjokhgmngcaaGreatDoor.Lx
open Go.RowKit Go.Proofs.YtdlfjokhgmngcaaGreatDoorW.PrintWords
set_option linter.unusedVariables false
set_option linter.unusedSimpArgs false

/-! ### frames -/
/-- w' is w but for block b and new blocks. -/
structure Fr (b : Nat) (w w' : World) : Prop where mk :: (out : w.grownBy w' (some b))
theorem Fr.refl (b : Nat) (w : World) : Fr b w w := ⟨⟨rfl, rfl, rfl, Nat.le_refl _, fun _ _ _ => rfl⟩⟩
theorem Fr.trans {b : Nat} {w w1 w2 : World} (h : Fr b w w1) (k : Fr b w1 w2) : Fr b w w2 := ⟨World.grownBy.trans h.out k.out⟩
theorem Fr.set {b : Nat} {w w1 : World} (h : Fr b w w1) (o : Nat) (v : Value) : Fr b w (w1.setCell ⟨b, o, none⟩ v) :=
  ⟨World.grownBy.trans h.out ⟨rfl, rfl, rfl, by simp [World.setCell], fun k _ hk => Below.heap_setCell _ _ _ _ (fun e => hk (by rw [e]))⟩⟩
theorem Fr.alloc {b : Nat} {w w1 : World} (h : Fr b w w1) (o : Obj) : Fr b w (w1.alloc o) := ⟨World.grownBy.trans h.out (World.grownBy_alloc w1 o _)⟩
theorem Fr.drew {b : Nat} {w w1 : World} (h : Fr b w w1) : Fr b w w1.drew := ⟨⟨h.out.os, h.out.tape, h.out.output, h.out.size, h.out.block⟩⟩
theorem Fr.drewN {b : Nat} {w w1 : World} (h : Fr b w w1) (n : Nat) : Fr b w (w1.drewN n) := ⟨⟨h.out.os, h.out.tape, h.out.output, h.out.size, h.out.block⟩⟩
theorem Fr.below {b : Nat} {w w1 w2 : World} (h : Fr b w w1) (k : Below w1.heap.size w1 w2) : Fr b w w2 := ⟨World.grownBy.trans h.out (grown_of_below k _)⟩
theorem Fr.drawn {b : Nat} {w w1 w2 : World} (h : Fr b w w1) (k : Drawn0 w1 w2) : Fr b w w2 := h.below k.below
/-- One frame behind another, some orders having been drawn between. -/
theorem Fr.step {b : Nat} {w w1 w2 w3 : World} (h : Fr b w w1) (k : Fr b w2 w3) (hh : w2.heap = w1.heap) (ho : w2.os = w1.os) (ht : w2.tape = w1.tape) (hp : w2.output = w1.output) : Fr b w w3 :=
  h.trans ⟨⟨k.out.os.trans ho, k.out.tape.trans ht, k.out.output.trans hp, by rw [← hh]; exact k.out.size, fun i hi hne => by rw [k.out.block i (by rw [hh]; exact hi) hne, hh]⟩⟩
theorem Fr.size {b : Nat} {w w1 : World} (h : Fr b w w1) : w.heap.size ≤ w1.heap.size := h.out.size
theorem Fr.blk {b g : Nat} {o : Obj} {w w1 : World} (h : Fr b w w1) (hg : w.heap[g]? = some o) (hne : g ≠ b) : w1.heap[g]? = some o := blk_grown hg h.out (fun e => hne (Option.some.inj e))

theorem disable (w : World) : (callFunc 105 #[]).run Tryz.prog w = .ok (.value (.tuple #[])) w := run_call_mark0 Tryz.func105 (by kernel_rfl) (by kernel_rfl) (by kernel_rfl) .disable (by kernel_rfl) w
theorem enable (w : World) : (callFunc 107 #[]).run Tryz.prog w = .ok (.value (.tuple #[])) w := run_call_mark0 Tryz.func107 (by kernel_rfl) (by kernel_rfl) (by kernel_rfl) .enable (by kernel_rfl) w
theorem acquire (a : Addr) (w : World) : (callFunc 108 #[.pointer (some a)]).run Tryz.prog w = .ok (.value (.tuple #[])) w := run_call_marked Tryz.func108 (by kernel_rfl) (by kernel_rfl) (by kernel_rfl) .acquire (by kernel_rfl) a w
theorem releaseMerge (a : Addr) (w : World) : (callFunc 110 #[.pointer (some a)]).run Tryz.prog w = .ok (.value (.tuple #[])) w := run_call_marked Tryz.func110 (by kernel_rfl) (by kernel_rfl) (by kernel_rfl) .releaseMerge (by kernel_rfl) a w

set_option maxRecDepth 100000 in
set_option maxHeartbeats 1600000 in
theorem store_deferred (a : Addr) (x : Value) (u : FrameMode) (w : World) (hc : w.cell? a = some x) (hz : w.frozen? a = false) :
    CallsD Tryz.prog 87 #[.pointer (some a), .bool true] u w fun e u' w' => u' = u ∧ (e = .returned (.tuple #[]) ∧ w' = w.drew.setCell a (.int .u32 1)) := by
  have hc' : w.drew.cell? a = some x := by go_simp
  have hz' : w.drew.frozen? a = false := by go_simp
  have hst := run_call_store (P := Tryz.prog) Tryz.func98 (by kernel_rfl) (by kernel_rfl) (by kernel_rfl) (by kernel_rfl) (k := .u32) (y := 1) hc' hz'
  go_enter_d Tryz.func87, Tryz.ntmps87
  go_wp2
  go_region_calls
  all_goals (go_end0; exact ⟨rfl, rfl⟩)

set_option maxRecDepth 100000 in
set_option maxHeartbeats 1600000 in
theorem unlock_deferred (a : Addr) (u : FrameMode) (w : World) (hc : w.cell? a = some (.int .i32 1)) (hz : w.frozen? a = false) :
    CallsD Tryz.prog 86 #[.pointer (some a)] u w fun e u' w' => u' = u ∧ (e = .returned (.tuple #[]) ∧ w' = w.setCell a (.int .i32 0)) := by
  have hd := disable
  have he := enable
  have hr := releaseMerge
  have hadd := run_call_add (P := Tryz.prog) Tryz.func111 (by kernel_rfl) (by kernel_rfl) (by kernel_rfl) .i32 (by kernel_rfl) (y := -1) (s := 0) hc hz (by simp [go_sem]; rfl)
  have hcv := run_convert_to_unsafe (P := Tryz.prog) (src := 184) (dst := 93) Tryz.underlying184 Tryz.underlying93 (by kernel_rfl) hc
  go_enter_d Tryz.func86, Tryz.ntmps86
  go_wp2
  go_end0
  go_wp2
  go_end0
  exact ⟨rfl, rfl⟩

set_option maxRecDepth 100000 in
set_option maxHeartbeats 1600000 in
theorem lock_free (a : Addr) (w : World) (hc : w.cell? a = some (.int .i32 0)) (hz : w.frozen? a = false) :
    Calls Tryz.prog 85 #[.pointer (some a)] w fun e w' => e = .returned (.tuple #[]) ∧ w' = w.setCell a (.int .i32 1) := by
  have hd := disable
  have he := enable
  have ha := acquire
  have hcas := run_call_cas_hit (P := Tryz.prog) Tryz.func106 (by kernel_rfl) (by kernel_rfl) (by kernel_rfl) .i32 (by kernel_rfl) (y := 1) hc hz
  have hc' : (w.setCell a (.int .i32 1)).cell? a = some (.int .i32 1) := World.cell?_setCell_same w a _ hc
  have hcv := run_convert_to_unsafe (P := Tryz.prog) (src := 184) (dst := 93) Tryz.underlying184 Tryz.underlying93 (by kernel_rfl) hc'
  go_enter Tryz.func85, Tryz.ntmps85
  go_wp2
  first | go_end0 | (simp only [Exit.inBlock, Exit.then]; refine bodyPost_ret (results_none rfl _ _ _) rfl ?_) | refine bodyPost_ret (results_none rfl _ _ _) rfl ?_
  go_wp2
  go_end0
  exact ⟨rfl, rfl⟩

theorem set_cell_ne {cs : Array Value} {i j : Nat} (u : Value) (h : i ≠ j) : (cs.setIfInBounds i u)[j]? = cs[j]? := by
  rw [Array.getElem?_setIfInBounds]; simp [h]
theorem set_cell_eq {cs : Array Value} {i : Nat} {v : Value} (u : Value) (h : cs[i]? = some v) : (cs.setIfInBounds i u)[i]? = some u := by
  have := (Array.getElem?_eq_some_iff.1 h).1
  rw [Array.getElem?_setIfInBounds]; simp [this]

set_option maxRecDepth 100000 in
set_option maxHeartbeats 1600000 in
/-- The slow way, not yet done and the lock free: the function (its contract given) runs once; then 'done' is stored, and the lock let go. -/
theorem slow_any (b : Nat) (T : TypeId) (C C' : Array Value) (g : FuncId) (cap : Array Value) (w : World) (hb : w.heap[b]? = some (.cells C T (0, 0)))
    (h0 : C[0]? = some (.int .u32 0)) (h1 : C[1]? = some (.int .i32 0)) (x0 : Value) (k0 : C'[0]? = some x0) (k1 : C'[1]? = some (.int .i32 1))
    (hent : ∀ args w, (callFunc g args).run Tryz.prog w = .ok (.enter g args) w)
    (hf : ∀ w1, w1.heap[b]? = some (.cells (C.setIfInBounds 1 (.int .i32 1)) T (0, 0)) → Fr b w w1 →
      Calls Tryz.prog g cap w1 fun e w2 => e = .returned (.tuple #[]) ∧ w2.heap[b]? = some (.cells C' T (0, 0)) ∧ Fr b w1 w2) :
    Calls Tryz.prog 75 #[.pointer (some ⟨b, 0, none⟩), .func (.func g) #[] cap] w fun e w' => e = .returned (.tuple #[]) ∧
      w'.heap[b]? = some (.cells ((C'.setIfInBounds 0 (.int .u32 1)).setIfInBounds 1 (.int .i32 0)) T (0, 0)) ∧ Fr b w w' := by
  have b1 := blk_set hb 1 (.int .i32 1)
  have f1 : Fr b w (w.setCell ⟨b, 1, none⟩ (.int .i32 1)) := (Fr.refl b w).set 1 _
  have q0 : (w.setCell ⟨b, 1, none⟩ (.int .i32 1)).cell? ⟨b, 0, none⟩ = some (.int .u32 0) := (blk_cell b1 0).trans ((set_cell_ne _ (by decide)).trans h0)
  have c1 : w.cell? ⟨b, 1, none⟩ = some (.int .i32 0) := (blk_cell hb 1).trans h1
  have z1 : w.frozen? ⟨b, 1, none⟩ = false := blk_frozen hb 1
  have HF := hf _ b1 f1
  have HB := Aside0.mk b1
  have HF1 := Aside0.mk f1
  have HC := Aside0.mk HF
  clear HF hf b1 f1
  have HK0 := Aside0.mk k0
  have HK1 := Aside0.mk k1
  clear k0 k1 h0 h1
  have hl := run_call_load (P := Tryz.prog) Tryz.func84 (by kernel_rfl) (by kernel_rfl) (by kernel_rfl) .u32 (by kernel_rfl) (w := w.setCell ⟨b, 1, none⟩ (.int .i32 1)) (a := ⟨b, 0, none⟩) (x := 0) q0
  have hnot : ∀ (x : Bool) (w : World), (Op.unary .not (.bool x)).run Tryz.prog w = .ok (.bool (!x)) w := fun _ _ => rfl
  go_enter_defers Tryz.func75, Tryz.ntmps75
  go_wp2_with (first | (go_at_call 85; refine (lock_free ⟨b, 1, none⟩ _ c1 z1).mono ?_; rintro e w' ⟨rfl, rfl⟩) | (go_at_call 74; go_in))
  refine HC.out.mono ?_
  rintro e w2 ⟨rfl, hb2, hf2⟩
  have HB2 := Aside0.mk hb2
  have HF2 := Aside0.mk hf2
  clear hb2 hf2
  go_wp2
  refine leaves_cons (f := 87) (args := #[.pointer (some ⟨b, 0, none⟩), .bool true]) (by simp) (by simp [go_sem]) ?_
  refine (store_deferred ⟨b, 0, none⟩ x0 .returning _ ((blk_cell HB2.out 0).trans HK0.out) (blk_frozen HB2.out 0)).mono ?_
  rintro e u' w'' ⟨rfl, rfl, rfl⟩
  have b3 : (w2.drew.setCell ⟨b, 0, none⟩ (.int .u32 1)).heap[b]? = some (.cells (C'.setIfInBounds 0 (.int .u32 1)) T (0, 0)) := blk_set (blk_drew HB2.out) 0 _
  refine leaves_cons (f := 86) (args := #[.pointer (some ⟨b, 1, none⟩)]) (by simp [settle]) (by simp [go_sem]) ?_
  refine (unlock_deferred ⟨b, 1, none⟩ _ _ ((blk_cell b3 1).trans ((set_cell_ne _ (by decide)).trans HK1.out)) (blk_frozen b3 1)).mono ?_
  rintro e u' w'' ⟨rfl, rfl, rfl⟩
  have b4 := blk_set b3 1 (.int .i32 0)
  have f4 : Fr b w ((w2.drew.setCell ⟨b, 0, none⟩ (.int .u32 1)).setCell ⟨b, 1, none⟩ (.int .i32 0)) := (((HF1.out.trans HF2.out).drew).set 0 _).set 1 _
  simp [Leaves, settle, results, Tryz.results75]
  exact ⟨b4, f4⟩

end Go.Proofs.YtdlfjokhgmngcaaGreatDoor.Lx
