/- sync.Once, for one goroutine, over a block of cells known whole: Do's slow way runs the function once; done, it does nothing.
   The table of the bytes' sorts: made once, when it is asked first; asked, it tells whether a byte is of a sort.
   The lexer's small methods: fail, take, while.
   The lexer's methods skip, name, mark.
   The lexer's methods name and mark. -/
import Derived.Tactics
import Derived.Tactics2
import Derived.Defers
import Derived.Laws.Pointers
import Derived.Laws.LoneSync
import Derived.RegionTactic
import Derived.RegionCalls
import Derived.ChangeAlike
import Derived.Laws.NewBlocks
import Derived.Outline
import Derived.Lib.ConvBytes
import Derived.LoopTactic
import Derived.WalkKit
import Derived.BigRegion
import Derived.Shelf.Abstract
import Derived.Deep.QuietTactic
import Derived.BigQuiet
import Derived.StillTailTactics
import Derived.WalkSpells
import Derived.IntWalk
import Derived.Laws.Rows
import Derived.Test.YtdlfjokhgmngcaaGreatDoorWWords
import Derived.Test.YtdlfjokhgmngcaaGreatDoorWMore
import Derived.Test.YtdlfjokhgmngcaaGreatDoorProg
import Derived.Test.YtdlfjokhgmngcaaGreatDoorShelf
namespace Go.Proofs.YtdlfjokhgmngcaaGreatDoor.Lx
open Go.RowKit Go.Proofs.YtdlfjokhgmngcaaGreatDoorW.PrintWords
set_option linter.unusedVariables false
set_option linter.unusedSimpArgs false

/-! ### frames -/
/-- w' is w but for block b and new blocks. -/
structure Fr (b : Nat) (w w' : World) : Prop where mk :: (out : w.grownBy w' (some b))
theorem Fr.refl (b : Nat) (w : World) : Fr b w w := ⟨⟨rfl, rfl, rfl, Nat.le_refl _, fun _ _ _ => rfl⟩⟩
theorem Fr.trans {b : Nat} {w w1 w2 : World} (h : Fr b w w1) (k : Fr b w1 w2) : Fr b w w2 := ⟨World.grownBy.trans h.out k.out⟩
theorem Fr.set {b : Nat} {w w1 : World} (h : Fr b w w1) (o : Nat) (v : Value) : Fr b w (w1.setCell ⟨b, o, none⟩ v) :=
  ⟨World.grownBy.trans h.out ⟨rfl, rfl, rfl, by simp [World.setCell], fun k _ hk => Below.heap_setCell _ _ _ _ (fun e => hk (by rw [e]))⟩⟩
theorem Fr.alloc {b : Nat} {w w1 : World} (h : Fr b w w1) (o : Obj) : Fr b w (w1.alloc o) := ⟨World.grownBy.trans h.out (World.grownBy_alloc w1 o _)⟩
theorem Fr.drew {b : Nat} {w w1 : World} (h : Fr b w w1) : Fr b w w1.drew := ⟨⟨h.out.os, h.out.tape, h.out.output, h.out.size, h.out.block⟩⟩
theorem Fr.drewN {b : Nat} {w w1 : World} (h : Fr b w w1) (n : Nat) : Fr b w (w1.drewN n) := ⟨⟨h.out.os, h.out.tape, h.out.output, h.out.size, h.out.block⟩⟩
theorem Fr.below {b : Nat} {w w1 w2 : World} (h : Fr b w w1) (k : Below w1.heap.size w1 w2) : Fr b w w2 := ⟨World.grownBy.trans h.out (grown_of_below k _)⟩
theorem Fr.drawn {b : Nat} {w w1 w2 : World} (h : Fr b w w1) (k : Drawn0 w1 w2) : Fr b w w2 := h.below k.below
/-- One frame behind another, some orders having been drawn between. -/
theorem Fr.step {b : Nat} {w w1 w2 w3 : World} (h : Fr b w w1) (k : Fr b w2 w3) (hh : w2.heap = w1.heap) (ho : w2.os = w1.os) (ht : w2.tape = w1.tape) (hp : w2.output = w1.output) : Fr b w w3 :=
  h.trans ⟨⟨k.out.os.trans ho, k.out.tape.trans ht, k.out.output.trans hp, by rw [← hh]; exact k.out.size, fun i hi hne => by rw [k.out.block i (by rw [hh]; exact hi) hne, hh]⟩⟩
theorem Fr.size {b : Nat} {w w1 : World} (h : Fr b w w1) : w.heap.size ≤ w1.heap.size := h.out.size
theorem Fr.blk {b g : Nat} {o : Obj} {w w1 : World} (h : Fr b w w1) (hg : w.heap[g]? = some o) (hne : g ≠ b) : w1.heap[g]? = some o := blk_grown hg h.out (fun e => hne (Option.some.inj e))

theorem disable (w : World) : (callFunc 105 #[]).run Tryz.prog w = .ok (.value (.tuple #[])) w := run_call_mark0 Tryz.func105 (by kernel_rfl) (by kernel_rfl) (by kernel_rfl) .disable (by kernel_rfl) w
theorem enable (w : World) : (callFunc 107 #[]).run Tryz.prog w = .ok (.value (.tuple #[])) w := run_call_mark0 Tryz.func107 (by kernel_rfl) (by kernel_rfl) (by kernel_rfl) .enable (by kernel_rfl) w
theorem acquire (a : Addr) (w : World) : (callFunc 108 #[.pointer (some a)]).run Tryz.prog w = .ok (.value (.tuple #[])) w := run_call_marked Tryz.func108 (by kernel_rfl) (by kernel_rfl) (by kernel_rfl) .acquire (by kernel_rfl) a w
theorem releaseMerge (a : Addr) (w : World) : (callFunc 110 #[.pointer (some a)]).run Tryz.prog w = .ok (.value (.tuple #[])) w := run_call_marked Tryz.func110 (by kernel_rfl) (by kernel_rfl) (by kernel_rfl) .releaseMerge (by kernel_rfl) a w

set_option maxRecDepth 100000 in
set_option maxHeartbeats 1600000 in
theorem store_deferred (a : Addr) (x : Value) (u : FrameMode) (w : World) (hc : w.cell? a = some x) (hz : w.frozen? a = false) :
    CallsD Tryz.prog 87 #[.pointer (some a), .bool true] u w fun e u' w' => u' = u ∧ (e = .returned (.tuple #[]) ∧ w' = w.drew.setCell a (.int .u32 1)) := by
  have hc' : w.drew.cell? a = some x := by go_simp
  have hz' : w.drew.frozen? a = false := by go_simp
  have hst := run_call_store (P := Tryz.prog) Tryz.func98 (by kernel_rfl) (by kernel_rfl) (by kernel_rfl) (by kernel_rfl) (k := .u32) (y := 1) hc' hz'
  go_enter_d Tryz.func87, Tryz.ntmps87
  go_wp2
  go_region_calls
  all_goals (go_end0; exact ⟨rfl, rfl⟩)

set_option maxRecDepth 100000 in
set_option maxHeartbeats 1600000 in
theorem unlock_deferred (a : Addr) (u : FrameMode) (w : World) (hc : w.cell? a = some (.int .i32 1)) (hz : w.frozen? a = false) :
    CallsD Tryz.prog 86 #[.pointer (some a)] u w fun e u' w' => u' = u ∧ (e = .returned (.tuple #[]) ∧ w' = w.setCell a (.int .i32 0)) := by
  have hd := disable
  have he := enable
  have hr := releaseMerge
  have hadd := run_call_add (P := Tryz.prog) Tryz.func111 (by kernel_rfl) (by kernel_rfl) (by kernel_rfl) .i32 (by kernel_rfl) (y := -1) (s := 0) hc hz (by simp [go_sem]; rfl)
  have hcv := run_convert_to_unsafe (P := Tryz.prog) (src := 184) (dst := 93) Tryz.underlying184 Tryz.underlying93 (by kernel_rfl) hc
  go_enter_d Tryz.func86, Tryz.ntmps86
  go_wp2
  go_end0
  go_wp2
  go_end0
  exact ⟨rfl, rfl⟩

set_option maxRecDepth 100000 in
set_option maxHeartbeats 1600000 in
theorem lock_free (a : Addr) (w : World) (hc : w.cell? a = some (.int .i32 0)) (hz : w.frozen? a = false) :
    Calls Tryz.prog 85 #[.pointer (some a)] w fun e w' => e = .returned (.tuple #[]) ∧ w' = w.setCell a (.int .i32 1) := by
  have hd := disable
  have he := enable
  have ha := acquire
  have hcas := run_call_cas_hit (P := Tryz.prog) Tryz.func106 (by kernel_rfl) (by kernel_rfl) (by kernel_rfl) .i32 (by kernel_rfl) (y := 1) hc hz
  have hc' : (w.setCell a (.int .i32 1)).cell? a = some (.int .i32 1) := World.cell?_setCell_same w a _ hc
  have hcv := run_convert_to_unsafe (P := Tryz.prog) (src := 184) (dst := 93) Tryz.underlying184 Tryz.underlying93 (by kernel_rfl) hc'
  go_enter Tryz.func85, Tryz.ntmps85
  go_wp2
  first | go_end0 | (simp only [Exit.inBlock, Exit.then]; refine bodyPost_ret (results_none rfl _ _ _) rfl ?_) | refine bodyPost_ret (results_none rfl _ _ _) rfl ?_
  go_wp2
  go_end0
  exact ⟨rfl, rfl⟩

theorem set_cell_ne {cs : Array Value} {i j : Nat} (u : Value) (h : i ≠ j) : (cs.setIfInBounds i u)[j]? = cs[j]? := by
  rw [Array.getElem?_setIfInBounds]; simp [h]
theorem set_cell_eq {cs : Array Value} {i : Nat} {v : Value} (u : Value) (h : cs[i]? = some v) : (cs.setIfInBounds i u)[i]? = some u := by
  have := (Array.getElem?_eq_some_iff.1 h).1
  rw [Array.getElem?_setIfInBounds]; simp [this]

set_option maxRecDepth 100000 in
set_option maxHeartbeats 1600000 in
/-- The slow way, not yet done and the lock free: the function (its contract given) runs once; then 'done' is stored, and the lock let go. -/
theorem slow_any (b : Nat) (T : TypeId) (C C' : Array Value) (g : FuncId) (cap : Array Value) (w : World) (hb : w.heap[b]? = some (.cells C T (0, 0)))
    (h0 : C[0]? = some (.int .u32 0)) (h1 : C[1]? = some (.int .i32 0)) (x0 : Value) (k0 : C'[0]? = some x0) (k1 : C'[1]? = some (.int .i32 1))
    (hent : ∀ args w, (callFunc g args).run Tryz.prog w = .ok (.enter g args) w)
    (hf : ∀ w1, w1.heap[b]? = some (.cells (C.setIfInBounds 1 (.int .i32 1)) T (0, 0)) → Fr b w w1 →
      Calls Tryz.prog g cap w1 fun e w2 => e = .returned (.tuple #[]) ∧ w2.heap[b]? = some (.cells C' T (0, 0)) ∧ Fr b w1 w2) :
    Calls Tryz.prog 75 #[.pointer (some ⟨b, 0, none⟩), .func (.func g) #[] cap] w fun e w' => e = .returned (.tuple #[]) ∧
      w'.heap[b]? = some (.cells ((C'.setIfInBounds 0 (.int .u32 1)).setIfInBounds 1 (.int .i32 0)) T (0, 0)) ∧ Fr b w w' := by
  have b1 := blk_set hb 1 (.int .i32 1)
  have f1 : Fr b w (w.setCell ⟨b, 1, none⟩ (.int .i32 1)) := (Fr.refl b w).set 1 _
  have q0 : (w.setCell ⟨b, 1, none⟩ (.int .i32 1)).cell? ⟨b, 0, none⟩ = some (.int .u32 0) := (blk_cell b1 0).trans ((set_cell_ne _ (by decide)).trans h0)
  have c1 : w.cell? ⟨b, 1, none⟩ = some (.int .i32 0) := (blk_cell hb 1).trans h1
  have z1 : w.frozen? ⟨b, 1, none⟩ = false := blk_frozen hb 1
  have HF := hf _ b1 f1
  have HB := Aside0.mk b1
  have HF1 := Aside0.mk f1
  have HC := Aside0.mk HF
  clear HF hf b1 f1
  have HK0 := Aside0.mk k0
  have HK1 := Aside0.mk k1
  clear k0 k1 h0 h1
  have hl := run_call_load (P := Tryz.prog) Tryz.func84 (by kernel_rfl) (by kernel_rfl) (by kernel_rfl) .u32 (by kernel_rfl) (w := w.setCell ⟨b, 1, none⟩ (.int .i32 1)) (a := ⟨b, 0, none⟩) (x := 0) q0
  have hnot : ∀ (x : Bool) (w : World), (Op.unary .not (.bool x)).run Tryz.prog w = .ok (.bool (!x)) w := fun _ _ => rfl
  go_enter_defers Tryz.func75, Tryz.ntmps75
  go_wp2_with (first | (go_at_call 85; refine (lock_free ⟨b, 1, none⟩ _ c1 z1).mono ?_; rintro e w' ⟨rfl, rfl⟩) | (go_at_call 74; go_in))
  refine HC.out.mono ?_
  rintro e w2 ⟨rfl, hb2, hf2⟩
  have HB2 := Aside0.mk hb2
  have HF2 := Aside0.mk hf2
  clear hb2 hf2
  go_wp2
  refine leaves_cons (f := 87) (args := #[.pointer (some ⟨b, 0, none⟩), .bool true]) (by simp) (by simp [go_sem]) ?_
  refine (store_deferred ⟨b, 0, none⟩ x0 .returning _ ((blk_cell HB2.out 0).trans HK0.out) (blk_frozen HB2.out 0)).mono ?_
  rintro e u' w'' ⟨rfl, rfl, rfl⟩
  have b3 : (w2.drew.setCell ⟨b, 0, none⟩ (.int .u32 1)).heap[b]? = some (.cells (C'.setIfInBounds 0 (.int .u32 1)) T (0, 0)) := blk_set (blk_drew HB2.out) 0 _
  refine leaves_cons (f := 86) (args := #[.pointer (some ⟨b, 1, none⟩)]) (by simp [settle]) (by simp [go_sem]) ?_
  refine (unlock_deferred ⟨b, 1, none⟩ _ _ ((blk_cell b3 1).trans ((set_cell_ne _ (by decide)).trans HK1.out)) (blk_frozen b3 1)).mono ?_
  rintro e u' w'' ⟨rfl, rfl, rfl⟩
  have b4 := blk_set b3 1 (.int .i32 0)
  have f4 : Fr b w ((w2.drew.setCell ⟨b, 0, none⟩ (.int .u32 1)).setCell ⟨b, 1, none⟩ (.int .i32 0)) := (((HF1.out.trans HF2.out).drew).set 0 _).set 1 _
  simp [Leaves, settle, results, Tryz.results75]
  exact ⟨b4, f4⟩

end Go.Proofs.YtdlfjokhgmngcaaGreatDoor.Lx

/-! The table of the bytes' sorts: made once, when it is asked first; asked, it tells whether a byte is of a sort. -/
namespace Go.Proofs.YtdlfjokhgmngcaaGreatDoor.Lx
open Go.RowKit Go.Shelf Go.Proofs.YtdlfjokhgmngcaaGreatDoorW.PrintWords
set_option linter.unusedVariables false
set_option linter.unusedSimpArgs false

/-- A table's cells, and what stands behind it. -/
def lexC (d m : Int) (S : List Int) (tl : List Value) : Array Value := (.int .u32 d :: .int .i32 m :: .int .u32 0 :: (S.map (Value.int .u8) ++ tl)).toArray
theorem lexC_0 (d m : Int) (S : List Int) (tl : List Value) : (lexC d m S tl)[0]? = some (.int .u32 d) := rfl
theorem lexC_1 (d m : Int) (S : List Int) (tl : List Value) : (lexC d m S tl)[1]? = some (.int .i32 m) := rfl
theorem lexC_s {d m : Int} {S : List Int} {tl : List Value} {c : Nat} (h : c < S.length) : (lexC d m S tl)[3 + c]? = some (.int .u8 (S.getD c 0)) := by
  rw [show 3 + c = c + 1 + 1 + 1 from by omega]
  simp [lexC, List.getElem?_append, h]
theorem lexC_t {d m : Int} {S : List Int} {tl : List Value} {j : Nat} (h : S.length = 256) : (lexC d m S tl)[259 + j]? = tl[j]? := by
  rw [show 259 + j = (256 + j) + 1 + 1 + 1 from by omega]
  simp [lexC, List.getElem?_append, h]
  omega
theorem lexC_set0 (d m x : Int) (S : List Int) (tl : List Value) : (lexC d m S tl).setIfInBounds 0 (.int .u32 x) = lexC x m S tl := rfl
theorem lexC_set1 (d m x : Int) (S : List Int) (tl : List Value) : (lexC d m S tl).setIfInBounds 1 (.int .i32 x) = lexC d x S tl := rfl
theorem lexC_sets {d m x : Int} {S : List Int} {tl : List Value} {c : Nat} (h : c < S.length) : (lexC d m S tl).setIfInBounds (3 + c) (.int .u8 x) = lexC d m (S.set c x) tl := by
  rw [show 3 + c = c + 1 + 1 + 1 from by omega]
  simp [lexC, List.set_append, h, List.map_set]
theorem lexC_sett {d m : Int} {S : List Int} {tl : List Value} {j : Nat} (v : Value) (h : S.length = 256) : (lexC d m S tl).setIfInBounds (259 + j) v = lexC d m S (tl.set j v) := by
  rw [show 259 + j = (256 + j) + 1 + 1 + 1 from by omega]
  simp [lexC, List.set_append, h]

/-- Each of some bytes is given a sort more. -/
def mk1 (k : Int) (S : List Int) (c : UInt8) : List Int := S.set c.toNat (Go.bits .or .u8 (S.getD c.toNat 0) k)
def markF (S : List Int) (l : List UInt8) (k : Int) : List Int := l.foldl (mk1 k) S
theorem markF_len (k : Int) (l : List UInt8) : ∀ S : List Int, (markF S l k).length = S.length := by
  induction l with
  | nil => intro S; rfl
  | cons c l ih => intro S; exact (ih _).trans (by simp [mk1])
theorem markF_snoc (S : List Int) (l : List UInt8) (c : UInt8) (k : Int) : markF S (l ++ [c]) k = mk1 k (markF S l k) c := by simp [markF, List.foldl_append]
theorem take_snoc (s : ByteArray) (k : Nat) (h : k < s.size) : s.data.toList.take (k + 1) = s.data.toList.take k ++ [s[k]] := by
  rw [List.take_succ_eq_append_getElem (by simpa using h)]; rfl

set_option maxRecDepth 100000 in
set_option maxHeartbeats 1600000 in
theorem mark_any (b pb : Nat) (d m : Int) (S : List Int) (tl : List Value) (s : ByteArray) (k : Int) (w : World) (hb : w.heap[b]? = some (.cells (lexC d m S tl) 74 (0, 0)))
    (hp : w.cell? ⟨pb, 0, none⟩ = some (.pointer (some ⟨b, 0, none⟩))) (hS : S.length = 256) (hne : pb ≠ b) (hs : s.size ≤ 1000) :
    Calls Tryz.prog 59 #[.string s, .int .u8 k, .pointer (some ⟨pb, 0, none⟩)] w fun e w' => e = .returned (.tuple #[]) ∧ w'.heap[b]? = some (.cells (lexC d m (markF S s.data.toList k) tl) 74 (0, 0)) ∧ Fr b w w' := by
  have hcv := Lib.run_convert_string_bytes (P := Tryz.prog) w 9 22 5 s Tryz.underlying9 Tryz.underlying22 Tryz.underlying5
  have hbl := blk_lt hb
  have hpl := World.block_lt_of_cell? w _ hp
  have HCell := Aside0.mk (Lib.bytesWorld_cell w 5 s)
  have hb1 := (Lib.bytesWorld_at_old w 5 s b hbl).trans hb
  have hp1 := (Lib.bytesWorld_old w 5 s _ hpl).trans hp
  have hf1 : Fr b w (Lib.bytesWorld w 5 s) := ⟨⟨rfl, rfl, rfl, by rw [Lib.bytesWorld_size]; omega, fun k hk _ => Lib.bytesWorld_at_old w _ s k hk⟩⟩
  have hz1 := Lib.bytesWorld_size w 5 s
  generalize Lib.bytesWorld w 5 s = w1 at *
  have HB := Aside0.mk hb1
  have HP := Aside0.mk hp1
  have HF := Aside0.mk hf1
  have HS := Aside0.mk hS
  have HZ := Aside0.mk hz1
  clear hb hp hb1 hp1 hf1 hS hz1
  go_enter Tryz.func59, Tryz.ntmps59
  go_wp2
  go_loopw [10] (fun i wr => ∃ n : Nat, n ≤ s.size ∧ i = .int .i64 n ∧ Aside0 (wr.heap[b]? = some (.cells (lexC d m (markF S (s.data.toList.take n) k) tl) 74 (0, 0))) ∧ Aside0 (Fr b w1 wr)) (fun i _ => s.size - (intOf i).toNat)
  case atStart => exact ⟨0, Nat.zero_le _, rfl, by simpa [markF] using HB, ⟨Fr.refl _ _⟩⟩
  case round =>
    obtain ⟨n, hn, rfl, HB2, HF2⟩ := hrel
    by_cases hlt : n < s.size
    · have hc : wr.cell? ⟨w.heap.size, n, none⟩ = some (.int .u8 (s[n]).toNat) := by
        have h1 := HCell.out n hlt
        have h2 := HF2.out.out.cell h1 (fun e => by have := Option.some.inj e; simp at this; omega)
        rw [h2]; simp [List.getD_eq_getElem?_getD, hlt]; rfl
      have hpw := HF2.out.out.cell HP.out (fun e => hne (Option.some.inj e))
      have hlen : (markF S (s.data.toList.take n) k).length = 256 := (markF_len _ _ _).trans HS.out
      have hcn : (s[n]).toNat < 256 := (s[n]).toNat_lt
      have hc2 : wr.cell? ⟨b, 3 + (s[n]).toNat, none⟩ = some (.int .u8 ((markF S (s.data.toList.take n) k).getD (s[n]).toNat 0)) := (blk_cell HB2.out _).trans (lexC_s (by omega))
      obtain ⟨x, hx⟩ : ∃ x, (markF S (s.data.toList.take n) k).getD (s[n]).toNat 0 = x := ⟨_, rfl⟩
      rw [hx] at hc2
      have HX := Aside0.mk hx
      clear hx
      have hz2 := blk_frozen HB2.out (3 + (s[n]).toNat)
      go_wp2
      go_region
      all_goals
        go_wp2
        go_roundw
        case rel =>
          refine ⟨n + 1, by omega, by go_num, ⟨?_⟩, ⟨?_⟩⟩
          · rw [take_snoc s n hlt, markF_snoc]
            have h3 := blk_set HB2.out (3 + (s[n]).toNat) (.int .u8 (Go.bits .or .u8 x k))
            rw [lexC_sets (by omega)] at h3
            unfold mk1
            rw [HX.out]
            exact h3
          · exact (HF2.out.set _ _).drew
        case measure => simp [intOf]; omega
    · go_wp2
      go_end0
      obtain rfl : n = s.size := by omega
      refine ⟨rfl, ?_, HF.out.trans HF2.out⟩
      have := HB2.out
      rwa [List.take_of_length_le (by simp)] at this

def blanksL : List UInt8 := [32, 9, 10]
def lettersL : List UInt8 := [97, 98, 99, 100, 101, 102, 103, 104, 105, 106, 107, 108, 109, 110, 111, 112, 113, 114, 115, 116, 117, 118, 119, 120, 121, 122, 65, 66, 67, 68, 69, 70, 71, 72, 73, 74, 75, 76, 77, 78, 79, 80, 81, 82, 83, 84, 85, 86, 87, 88, 89, 90, 95]
def digitsL : List UInt8 := [48, 49, 50, 51, 52, 53, 54, 55, 56, 57]
def singlesL : List UInt8 := [123, 125, 40, 41, 91, 93, 59, 58, 44, 46, 61, 60, 62, 43, 45, 42, 47, 37, 38, 94, 124, 126, 33]
def zerosS : List Int := List.replicate 256 0
def sortsS : List Int := markF (markF (markF (markF zerosS blanksL 1) lettersL 2) digitsL 4) singlesL 8
theorem zerosS_len : zerosS.length = 256 := List.length_replicate
theorem sortsS_len : sortsS.length = 256 := by unfold sortsS; rw [markF_len, markF_len, markF_len, markF_len]; exact zerosS_len
/-- Of which sorts a byte is. -/
def sortOf (c : Nat) : Int := sortsS.getD c 0

set_option maxRecDepth 100000 in
set_option maxHeartbeats 1600000 in
theorem is1_any (b pb : Nat) (d m : Int) (tl : List Value) (w : World) (hb : w.heap[b]? = some (.cells (lexC d m zerosS tl) 74 (0, 0)))
    (hp : w.cell? ⟨pb, 0, none⟩ = some (.pointer (some ⟨b, 0, none⟩))) (hne : pb ≠ b) :
    Calls Tryz.prog 58 #[.pointer (some ⟨pb, 0, none⟩)] w fun e w' => e = .returned (.tuple #[]) ∧ w'.heap[b]? = some (.cells (lexC d m sortsS tl) 74 (0, 0)) ∧ Fr b w w' := by
  have hmf : ∀ (fn : Fn) (first cap : Array Value) (w : World), (Instr.makeFunc fn first cap).run Tryz.prog w = .ok (.func fn first cap) w := fun _ _ _ _ => rfl
  have hpl := World.block_lt_of_cell? w _ hp
  have HB := Aside0.mk hb
  have HP := Aside0.mk hp
  clear hb hp
  go_enter Tryz.func58, Tryz.ntmps58
  go_wp2_with fail
  refine (mark_any b pb d m zerosS tl ⟨#[32, 9, 10]⟩ 1 _ HB.out HP.out zerosS_len hne (by decide)).mono ?_
  rintro e w1 ⟨rfl, h1, f1⟩
  have HB1 := Aside0.mk h1
  have HF1 := Aside0.mk f1
  clear h1 f1
  go_wp2_with fail
  refine (mark_any b pb d m _ tl _ 2 _ HB1.out (HF1.out.out.cell HP.out (fun e => hne (Option.some.inj e))) (by simp only [markF_len]; exact zerosS_len) hne (by decide)).mono ?_
  rintro e w2 ⟨rfl, h1, f1⟩
  have HB2 := Aside0.mk h1
  have HF2 := Aside0.mk (HF1.out.trans f1)
  clear h1 f1
  go_wp2_with fail
  refine (mark_any b pb d m _ tl _ 4 _ HB2.out (HF2.out.out.cell HP.out (fun e => hne (Option.some.inj e))) (by simp only [markF_len]; exact zerosS_len) hne (by decide)).mono ?_
  rintro e w3 ⟨rfl, h1, f1⟩
  have HB3 := Aside0.mk h1
  have HF3 := Aside0.mk (HF2.out.trans f1)
  clear h1 f1
  go_wp2_with fail
  refine (mark_any b pb d m _ tl _ 8 _ HB3.out (HF3.out.out.cell HP.out (fun e => hne (Option.some.inj e))) (by simp only [markF_len]; exact zerosS_len) hne (by decide)).mono ?_
  rintro e w4 ⟨rfl, h1, f1⟩
  have HB4 := Aside0.mk h1
  have HF4 := Aside0.mk (HF3.out.trans f1)
  clear h1 f1
  go_wp2
  go_end0
  exact ⟨rfl, HB4.out, HF4.out⟩

set_option maxRecDepth 100000 in
set_option maxHeartbeats 1600000 in
theorem do_first (b pb : Nat) (tl : List Value) (w : World) (hb : w.heap[b]? = some (.cells (lexC 0 0 zerosS tl) 74 (0, 0)))
    (hp : w.cell? ⟨pb, 0, none⟩ = some (.pointer (some ⟨b, 0, none⟩))) (hne : pb ≠ b) :
    Calls Tryz.prog 57 #[.pointer (some ⟨b, 0, none⟩), .func (.func 58) #[] #[.pointer (some ⟨pb, 0, none⟩)]] w fun e w' => e = .returned (.tuple #[]) ∧ w'.heap[b]? = some (.cells (lexC 1 0 sortsS tl) 74 (0, 0)) ∧ Fr b w w' := by
  have q0 : w.cell? ⟨b, 0, none⟩ = some (.int .u32 0) := blk_cell hb 0
  have hl := run_call_load (P := Tryz.prog) Tryz.func84 (by kernel_rfl) (by kernel_rfl) (by kernel_rfl) .u32 (by kernel_rfl) q0
  have hnot : ∀ (x : Bool) (w : World), (Op.unary .not (.bool x)).run Tryz.prog w = .ok (.bool (!x)) w := fun _ _ => rfl
  have HS := Aside0.mk (slow_any b 74 (lexC 0 0 zerosS tl) (lexC 0 1 sortsS tl) 58 #[.pointer (some ⟨pb, 0, none⟩)] w hb rfl rfl (.int .u32 0) rfl rfl (enters_of Tryz.func58 (by kernel_rfl) rfl)
    (fun w1 h1 f1 => is1_any b pb 0 1 tl w1 h1 (f1.out.cell hp (fun e => hne (Option.some.inj e))) hne))
  clear hb hp
  go_enter Tryz.func57, Tryz.ntmps57
  go_wp2_with (first | (go_at_call 75; refine HS.out.mono ?_; rintro e w' ⟨rfl, h1, f1⟩; have HB1 := Aside0.mk h1; have HF1 := Aside0.mk f1; clear h1 f1) | (go_at_call 74; go_in))
  go_end0
  exact ⟨rfl, HB1.out, HF1.out⟩

theorem do_done (b : Nat) (C : Array Value) (T : TypeId) (fv : Value) (w : World) (hb : w.heap[b]? = some (.cells C T (0, 0))) (h0 : C[0]? = some (.int .u32 1)) :
    Calls Tryz.prog 57 #[.pointer (some ⟨b, 0, none⟩), fv] w fun e w' => e = .returned (.tuple #[]) ∧ w = w' := by
  have q0 : w.cell? ⟨b, 0, none⟩ = some (.int .u32 1) := (blk_cell hb 0).trans h0
  have hl := run_call_load (P := Tryz.prog) Tryz.func84 (by kernel_rfl) (by kernel_rfl) (by kernel_rfl) .u32 (by kernel_rfl) q0
  have hnot : ∀ (x : Bool) (w : World), (Op.unary .not (.bool x)).run Tryz.prog w = .ok (.bool (!x)) w := fun _ _ => rfl
  clear hb h0
  go_enter Tryz.func57, Tryz.ntmps57
  go_wp2
  go_end0
  exact ⟨rfl, rfl⟩

/-- A lexer's block: asked already (the sorts are made), or not. -/
def LexB (w : World) (b : Nat) (ini : Bool) (tl : List Value) : Prop :=
  w.heap[b]? = some (.cells (if ini then lexC 1 0 sortsS tl else lexC 0 0 zerosS tl) 74 (0, 0))

/-- Is a byte of one of some sorts? -/
def hasS (c m : Int) : Bool := (Go.bits .and .u8 (sortOf c.toNat) m) != 0

set_option maxRecDepth 100000 in
set_option maxHeartbeats 1600000 in
theorem is_any (b : Nat) (ini : Bool) (tl : List Value) (c m : Int) (w : World) (hb : LexB w b ini tl) (hc0 : 0 ≤ c) (hc : c < 256) :
    Calls Tryz.prog 38 #[.pointer (some ⟨b, 0, none⟩), .int .u8 c, .int .u8 m] w fun e w' => e = .returned (.bool (hasS c m)) ∧ LexB w' b true tl ∧ Fr b w w' := by
  have hmf : ∀ (fn : Fn) (first cap : Array Value) (w : World), (Instr.makeFunc fn first cap).run Tryz.prog w = .ok (.func fn first cap) w := fun _ _ _ _ => rfl
  have hbl := blk_lt hb
  have HF0 := Aside0.mk ((Fr.refl b w).alloc (.cells #[.pointer (some ⟨b, 0, none⟩)] 113))
  have HP0 : (w.alloc (.cells #[.pointer (some ⟨b, 0, none⟩)] 113)).cell? ⟨w.heap.size, 0, none⟩ = some (.pointer (some ⟨b, 0, none⟩)) := by simp
  have HP := Aside0.mk HP0
  clear HP0
  cases ini with
  | false =>
    have HB := Aside0.mk (show (w.alloc (.cells #[.pointer (some ⟨b, 0, none⟩)] 113)).heap[b]? = some (.cells (lexC 0 0 zerosS tl) 74 (0, 0)) from blk_alloc hb _)
    clear hb
    go_enter Tryz.func38, Tryz.ntmps38
    go_wp2_with fail
    refine (do_first b w.heap.size tl _ HB.out HP.out (by omega)).mono ?_
    rintro e w1 ⟨rfl, h1, f1⟩
    have HB1 := Aside0.mk h1
    have HF1 := Aside0.mk (HF0.out.trans f1)
    have hp1 := f1.out.cell HP.out (fun e => absurd (Option.some.inj e) (by simp; omega))
    have hcell := (blk_cell h1 (3 + c.toNat)).trans (lexC_s (by rw [sortsS_len]; omega))
    obtain ⟨x, hx⟩ : ∃ x, sortsS.getD c.toNat 0 = x := ⟨_, rfl⟩
    rw [hx] at hcell
    have HX := Aside0.mk hx
    clear hx h1 f1
    go_wp2
    go_ret
    refine ⟨?_, HB1.out, HF1.out⟩
    rw [hasS, sortOf, HX.out]; rfl
  | true =>
    have h1 : (w.alloc (.cells #[.pointer (some ⟨b, 0, none⟩)] 113)).heap[b]? = some (.cells (lexC 1 0 sortsS tl) 74 (0, 0)) := blk_alloc hb _
    have HB := Aside0.mk h1
    have hcell := (blk_cell h1 (3 + c.toNat)).trans (lexC_s (by rw [sortsS_len]; omega))
    obtain ⟨x, hx⟩ : ∃ x, sortsS.getD c.toNat 0 = x := ⟨_, rfl⟩
    rw [hx] at hcell
    have HX := Aside0.mk hx
    clear hx h1 hb
    go_enter Tryz.func38, Tryz.ntmps38
    go_wp2_with (go_at_call 57; refine (do_done b _ _ _ _ HB.out (lexC_0 _ _ _ _)).mono ?_; rintro e w1 ⟨rfl, rfl⟩)
    go_ret
    refine ⟨?_, HB.out, HF0.out⟩
    rw [hasS, sortOf, HX.out]; rfl
end Go.Proofs.YtdlfjokhgmngcaaGreatDoor.Lx

/-! The lexer's small methods: fail, take, while. -/
namespace Go.Proofs.YtdlfjokhgmngcaaGreatDoor.Lx
open Go.RowKit Go.Shelf Go.Proofs.YtdlfjokhgmngcaaGreatDoorW.PrintWords
set_option linter.unusedVariables false
set_option linter.unusedSimpArgs false

/-- An error that is a fault: its number, its place. -/
def FaultAt (w : World) (v : Value) (code at_ : Int) : Prop := ∃ g, v = .iface 56 (.pointer (some ⟨g, 0, none⟩)) ∧ w.heap[g]? = some (.cells #[.int .i64 code, .int .i64 at_] 37 (0, 0))
theorem FaultAt.keep {w w' : World} {v : Value} {code at_ : Int} (h : FaultAt w v code at_) (hb : ∀ g, g < w.heap.size → (∃ c a, w.heap[g]? = some (.cells #[.int .i64 c, .int .i64 a] 37 (0, 0))) → w'.heap[g]? = w.heap[g]?) : FaultAt w' v code at_ := by
  obtain ⟨g, e, hg⟩ := h
  exact ⟨g, e, (hb g (blk_lt hg) ⟨_, _, hg⟩).trans hg⟩

/-- The lexer's own cells behind the table. -/
def lxt (s : ByteArray) (at_ line : Nat) (err : Value) : List Value := [.string s, .int .i64 at_, .int .i64 line, err]
def LX (w : World) (b : Nat) (ini : Bool) (s : ByteArray) (at_ line : Nat) (err : Value) : Prop := LexB w b ini (lxt s at_ line err)

theorem lx_at {w : World} {b : Nat} {ini : Bool} {tl : List Value} (h : LexB w b ini tl) (j : Nat) : w.cell? ⟨b, 259 + j, none⟩ = tl[j]? := by
  unfold LexB at h
  cases ini <;> exact (blk_cell h _).trans (lexC_t (by first | exact sortsS_len | exact zerosS_len))
theorem lx_free {w : World} {b : Nat} {ini : Bool} {tl : List Value} (h : LexB w b ini tl) (j : Nat) : w.frozen? ⟨b, j, none⟩ = false := blk_frozen h j
theorem lx_set {w : World} {b : Nat} {ini : Bool} {tl : List Value} (h : LexB w b ini tl) (j : Nat) (v : Value) : LexB (w.setCell ⟨b, 259 + j, none⟩ v) b ini (tl.set j v) := by
  unfold LexB at h ⊢
  have h2 := blk_set h (259 + j) v
  cases ini
  · simp only [Bool.false_eq_true, if_false] at h2 ⊢; rwa [lexC_sett v zerosS_len] at h2
  · simp only [if_true] at h2 ⊢; rwa [lexC_sett v sortsS_len] at h2
theorem lx_drewN {w : World} {b : Nat} {ini : Bool} {tl : List Value} (h : LexB w b ini tl) (n : Nat) : LexB (w.drewN n) b ini tl := h
theorem lx_drew {w : World} {b : Nat} {ini : Bool} {tl : List Value} (h : LexB w b ini tl) : LexB w.drew b ini tl := h
theorem lx_alloc {w : World} {b : Nat} {ini : Bool} {tl : List Value} (h : LexB w b ini tl) (o : Obj) : LexB (w.alloc o) b ini tl := blk_alloc h o

/-- Behind 'fail'. -/
def Failed (b : Nat) (ini : Bool) (s : ByteArray) (at_ line : Nat) (code pl : Int) (w : World) (e : Ending) (w' : World) : Prop :=
  e = .returned (.tuple #[]) ∧ Fr b w w' ∧ ∃ v, FaultAt w' v code pl ∧ LX w' b ini s at_ line v ∧ ∃ g, w.heap.size ≤ g ∧ v = .iface 56 (.pointer (some ⟨g, 0, none⟩))

set_option maxRecDepth 100000 in
theorem fail_any (b : Nat) (ini : Bool) (s : ByteArray) (at_ line : Nat) (err : Value) (code pl : Int) (w : World) (hb : LX w b ini s at_ line err) :
    Calls Tryz.prog 42 #[.pointer (some ⟨b, 0, none⟩), .int .i64 code, .int .i64 pl] w (Failed b ini s at_ line code pl w) := by
  have hbl := blk_lt hb
  have HB := Aside0.mk hb
  have hc : w.cell? ⟨b, 262, none⟩ = some err := lx_at HB.out 3
  have hz : w.frozen? ⟨b, 262, none⟩ = false := lx_free HB.out 262
  have hc2 : (w.alloc (.cells #[.int .i64 code, .int .i64 pl] 37)).cell? ⟨b, 262, none⟩ = some err := by rw [World.cell?_alloc_past _ _ _ hbl]; exact hc
  have hz2 : (w.alloc (.cells #[.int .i64 code, .int .i64 pl] 37)).frozen? ⟨b, 262, none⟩ = false := by rw [World.frozen?_alloc_past _ _ _ hbl]; exact hz
  clear hb
  go_enter Tryz.func42, Tryz.ntmps42
  go_wp2
  go_end0
  have hsz : (w.setCell ⟨b, 262, none⟩ (.iface 56 (.pointer (some ⟨w.heap.size, 0, none⟩)))).heap.size = w.heap.size := by simp [World.setCell]
  refine ⟨rfl, ((Fr.refl b w).set _ _).alloc _, _, ⟨w.heap.size, rfl, ?_⟩, lx_alloc (lx_set HB.out 3 _) _, w.heap.size, Nat.le_refl _, rfl⟩
  have := blk_new (w.setCell ⟨b, 262, none⟩ (.iface 56 (.pointer (some ⟨w.heap.size, 0, none⟩)))) (.cells #[.int .i64 code, .int .i64 pl] 37)
  rwa [hsz] at this

/-- How many line ends there are. -/
def nls (l : List UInt8) : Nat := l.count 10

theorem count_nl (q : ByteArray) (w : World) : Calls Tryz.prog 15 #[.string q, .string ⟨#[10]⟩] w fun e w' => e = .returned (.int .i64 (nls q.data.toList)) ∧ w = w' :=
  (Tryz.strings_Count_one q 10 w).mono fun e w' ⟨h, k⟩ => ⟨h, k.symm⟩

/-- Behind 'take'. -/
def Taken (b : Nat) (ini : Bool) (s : ByteArray) (at_ line n : Nat) (err : Value) (w : World) (e : Ending) (w' : World) : Prop :=
  e = .returned (.string (s.extract at_ (at_ + n))) ∧ LX w' b ini s (at_ + n) (line + nls (s.extract at_ (at_ + n)).data.toList) err ∧ Fr b w w'

set_option maxRecDepth 100000 in
set_option maxHeartbeats 1600000 in
theorem take_any (b : Nat) (ini : Bool) (s : ByteArray) (at_ line n : Nat) (err : Value) (w : World) (hb : LX w b ini s at_ line err) (hn : at_ + n ≤ s.size) (hs : s.size ≤ 20000) (hl : line ≤ 100000) :
    Calls Tryz.prog 55 #[.pointer (some ⟨b, 0, none⟩), .int .i64 n] w (Taken b ini s at_ line n err w) := by
  have hbl := blk_lt hb
  have HB := Aside0.mk hb
  have hc0 : w.cell? ⟨b, 259, none⟩ = some (.string s) := lx_at HB.out 0
  have hc1 : w.cell? ⟨b, 260, none⟩ = some (.int .i64 at_) := lx_at HB.out 1
  have hz1 : w.frozen? ⟨b, 260, none⟩ = false := lx_free HB.out 260
  have hz2 : w.frozen? ⟨b, 261, none⟩ = false := lx_free HB.out 261
  clear hb
  go_enter Tryz.func55, Tryz.ntmps55
  go_wp2
  go_quiet (fail)
  go_wp2
  obtain ⟨W, hW⟩ : ∃ W, (w.drewN nq).setCell ⟨b, 260, none⟩ (.int .i64 (↑at_ + ↑n)) = W := ⟨_, rfl⟩
  have HB1 := Aside0.mk (show LX W b ini s (at_ + n) line err by
    rw [← hW]
    have := lx_set (lx_drewN HB.out nq) 1 (.int .i64 ((at_ : Int) + n))
    simpa [LX, lxt] using this)
  have HF1 := Aside0.mk (show Fr b w W by rw [← hW]; exact ((Fr.refl b w).drewN nq).set 260 _)
  rw [hW]
  clear hW hc0 hc1 hz1 hz2
  have hc2 : W.cell? ⟨b, 261, none⟩ = some (.int .i64 line) := lx_at HB1.out 2
  have hz2 : W.frozen? ⟨b, 261, none⟩ = false := lx_free HB1.out 261
  have hcl : nls (s.extract at_ (at_ + n)).data.toList ≤ 20000 := by
    refine Nat.le_trans List.count_le_length ?_
    simp
    omega
  obtain ⟨q, hq⟩ : ∃ q, s.extract at_ (at_ + n) = q := ⟨_, rfl⟩
  rw [hq] at hcl ⊢
  have HQ := Aside0.mk hq
  clear hq
  obtain ⟨c, hc⟩ : ∃ c, nls q.data.toList = c := ⟨_, rfl⟩
  have HC := Aside0.mk (show ∀ w, Calls Tryz.prog 15 #[.string q, .string ⟨#[10]⟩] w fun e w' => e = .returned (.int .i64 c) ∧ w = w' from fun w => hc ▸ count_nl q w)
  rw [hc] at hcl
  have HN := Aside0.mk hc
  clear hc
  have hwr : IntKind.i64.wrap (↑line + ↑c) = (line : Int) + c := IntWalk.i64_in _ (by omega)
  go_region_with (go_at_call 15; refine (HC.out _).mono ?_; rintro e w' ⟨rfl, rfl⟩)
  all_goals
    clear hwr
    go_wp2
    go_ret
    refine ⟨by rw [HQ.out]; rfl, ?_, ((HF1.out.set _ _).drew)⟩
    rw [HQ.out, HN.out]
    have := lx_drew (lx_set HB1.out 2 (.int .i64 ((line : Int) + c)))
    simpa [LX, lxt] using this


theorem take_int (b : Nat) (ini : Bool) (s : ByteArray) (at_ line n : Nat) (err : Value) (m : Int) (w : World) (hm : m = (n : Int)) (hb : LX w b ini s at_ line err) (hn : at_ + n ≤ s.size) (hs : s.size ≤ 20000) (hl : line ≤ 100000) :
    Calls Tryz.prog 55 #[.pointer (some ⟨b, 0, none⟩), .int .i64 m] w (Taken b ini s at_ line n err w) := hm ▸ take_any b ini s at_ line n err w hb hn hs hl

/-- How many bytes of a sort stand at the head. -/
def whileN (m : Int) (l : List UInt8) : Nat := (l.takeWhile fun c => hasS (c.toNat : Int) m).length
theorem takeWhile_len {p : UInt8 → Bool} : ∀ (l : List UInt8) (k : Nat), (∀ j, j < k → ∃ h : j < l.length, p l[j] = true) → (l.length ≤ k ∨ ∃ h : k < l.length, p l[k] = false) → (l.takeWhile p).length = k
  | [], k, h1, h2 => by
    cases k with
    | zero => rfl
    | succ k => obtain ⟨h, _⟩ := h1 0 (by omega); simp at h
  | c :: l, k, h1, h2 => by
    cases k with
    | zero =>
      rcases h2 with h2 | ⟨h, h2⟩
      · simp at h2
      · simp at h2; simp [List.takeWhile_cons, h2]
    | succ k =>
      obtain ⟨_, h0⟩ := h1 0 (by omega)
      simp at h0
      have := takeWhile_len (p := p) l k (fun j hj => by obtain ⟨h, h3⟩ := h1 (j + 1) (by omega); exact ⟨by simpa using h, by simpa using h3⟩) (by
        rcases h2 with h2 | ⟨h, h2⟩
        · exact .inl (by simpa using h2)
        · exact .inr ⟨by simpa using h, by simpa using h2⟩)
      simp [List.takeWhile_cons, h0, this]

/-- Behind 'while'. -/
def Whiled (b : Nat) (s : ByteArray) (at_ line : Nat) (err : Value) (m : Int) (w : World) (e : Ending) (w' : World) : Prop :=
  e = .returned (.int .i64 (whileN m (s.extract at_ s.size).data.toList)) ∧ LX w' b true s at_ line err ∧ Fr b w w'

set_option maxRecDepth 100000 in
set_option maxHeartbeats 1600000 in
theorem while_any (b : Nat) (s : ByteArray) (at_ line : Nat) (err : Value) (m : Int) (w : World) (hb : LX w b true s at_ line err) (hn : at_ ≤ s.size) (hs : s.size ≤ 20000) :
    Calls Tryz.prog 60 #[.pointer (some ⟨b, 0, none⟩), .int .u8 m] w (Whiled b s at_ line err m w) := by
  have hbl := blk_lt hb
  have HB := Aside0.mk hb
  have hc0 : w.cell? ⟨b, 259, none⟩ = some (.string s) := lx_at HB.out 0
  have hc1 : w.cell? ⟨b, 260, none⟩ = some (.int .i64 at_) := lx_at HB.out 1
  clear hb
  go_enter Tryz.func60, Tryz.ntmps60
  go_wp2
  go_quiet (fail)
  go_wp2
  have hqs : (s.extract at_ s.size).size = s.size - at_ := by simp
  obtain ⟨q, hq⟩ : ∃ q, s.extract at_ s.size = q := ⟨_, rfl⟩
  rw [hq] at hqs ⊢
  rw [← hqs]
  have HQ := Aside0.mk hq
  have hqm : q.size ≤ 20000 := by omega
  have HB0 := Aside0.mk (show LX (w.drewN nq) b true s at_ line err from HB.out)
  have HF0 := Aside0.mk ((Fr.refl b w).drewN nq)
  clear hq hqs hc0 hc1 HB
  generalize w.drewN nq = W at *
  go_loopw [18] (fun i wr => ∃ k : Nat, k ≤ q.size ∧ i = .int .i64 k ∧ Aside0 (∀ j, j < k → ∃ h : j < q.size, hasS ((q[j]'h).toNat : Int) m = true) ∧ Aside0 (LX wr b true s at_ line err) ∧ Aside0 (Fr b w wr)) (fun i _ => q.size - (intOf i).toNat)
  case atStart => exact ⟨0, Nat.zero_le _, rfl, ⟨fun j h => absurd h (Nat.not_lt_zero j)⟩, HB0, HF0⟩
  case round =>
    clear HB0 HF0
    obtain ⟨k, hk, rfl, HA, HB1, HF1⟩ := hrel
    by_cases hlt : k < q.size
    · have hcn : (q[k]).toNat < 256 := (q[k]).toNat_lt
      obtain ⟨c, hc⟩ : ∃ c : Nat, (q[k]).toNat = c := ⟨_, rfl⟩
      have hidx : ∀ h : k < q.size, (q[k]'h).toNat = c := fun _ => hc
      rw [hc] at hcn
      have HC := Aside0.mk hc
      clear hc
      cases hh : hasS c m with
      | true =>
        have HH := Aside0.mk hh
        have hcon : ∀ W, LX W b true s at_ line err → Calls Tryz.prog 38 #[.pointer (some ⟨b, 0, none⟩), .int .u8 c, .int .u8 m] W fun e w' => e = .returned (.bool true) ∧ LX w' b true s at_ line err ∧ Fr b W w' :=
          fun W h => hh ▸ is_any b true _ c m W h (by omega) (by omega)
        have HCon := Aside0.mk hcon
        clear hh hcon
        go_wp2
        go_region_with (go_at_call 38; refine (HCon.out wr.drew HB1.out).mono ?_; rintro e w' ⟨rfl, h1, f1⟩; have HB2 := Aside0.mk h1; have HF2 := Aside0.mk (HF1.out.drew.trans f1); clear h1 f1)
        go_wp2
        go_roundw
        case rel =>
          refine ⟨k + 1, by omega, by go_num, ⟨?_⟩, HB2, HF2⟩
          intro j hj
          rcases Nat.lt_or_ge j k with h | h
          · exact HA.out j h
          · obtain rfl : j = k := by omega
            exact ⟨hlt, by rw [HC.out]; exact HH.out⟩
        case measure => simp [intOf]; omega
      | false =>
        have HH := Aside0.mk hh
        have hcon : ∀ W, LX W b true s at_ line err → Calls Tryz.prog 38 #[.pointer (some ⟨b, 0, none⟩), .int .u8 c, .int .u8 m] W fun e w' => e = .returned (.bool false) ∧ LX w' b true s at_ line err ∧ Fr b W w' :=
          fun W h => hh ▸ is_any b true _ c m W h (by omega) (by omega)
        have HCon := Aside0.mk hcon
        clear hh hcon
        go_wp2
        go_region_with (go_at_call 38; refine (HCon.out wr.drew HB1.out).mono ?_; rintro e w' ⟨rfl, h1, f1⟩; have HB2 := Aside0.mk h1; have HF2 := Aside0.mk (HF1.out.drew.trans f1); clear h1 f1)
        go_wp2
        go_ret
        refine ⟨?_, HB2.out, HF2.out⟩
        rw [HQ.out, whileN, takeWhile_len (p := fun c => hasS (c.toNat : Int) m) q.data.toList k (fun j hj => HA.out j hj) (.inr ⟨hlt, by show hasS ((q[k]).toNat : Int) m = false; rw [HC.out]; exact HH.out⟩)]
        rfl
    · go_wp2
      go_ret
      obtain rfl : k = q.size := by omega
      refine ⟨?_, HB1.out, HF1.out⟩
      rw [HQ.out, whileN, takeWhile_len (p := fun c => hasS (c.toNat : Int) m) q.data.toList q.size (fun j hj => HA.out j hj) (.inl (by simp))]
      rfl
end Go.Proofs.YtdlfjokhgmngcaaGreatDoor.Lx

/-! The lexer's methods skip, name, mark. -/
namespace Go.Proofs.YtdlfjokhgmngcaaGreatDoor.Lx
open Go.RowKit Go.Shelf Go.Proofs.YtdlfjokhgmngcaaGreatDoorW.PrintWords
set_option linter.unusedVariables false
set_option linter.unusedSimpArgs false

/-- How many bytes stand ahead of the line's end. -/
def lineN (l : List UInt8) : Nat := (l.takeWhile fun c => c != 10).length
theorem lineN_index : ∀ l : List UInt8, Lib.indexByte l 10 = if lineN l < l.length then (lineN l : Int) else -1
  | [] => rfl
  | c :: l => by
    have ih := lineN_index l
    unfold Lib.indexByte
    by_cases h : c = 10
    · subst h; simp [lineN]
    · have hb : (c == 10) = false := by simpa using h
      have hl : lineN (c :: l) = lineN l + 1 := by simp [lineN, List.takeWhile_cons, h]
      rw [hb, hl]
      simp only [Bool.false_eq_true, if_false, List.length_cons]
      rw [ih]
      by_cases h2 : lineN l < l.length
      · have : ((lineN l : Int) == -1) = false := beq_eq_false_iff_ne.2 (by omega)
        have h3 : lineN l + 1 < l.length + 1 := by omega
        simp [h2, h3, this]
      · have h3 : ¬ lineN l + 1 < l.length + 1 := by omega
        simp [h2, h3]
theorem lineN_le (l : List UInt8) : lineN l ≤ l.length := by
  unfold lineN; exact List.Sublist.length_le (List.takeWhile_sublist _)

/-- What 'Cut' at a line end gives: what stands ahead of it. -/
def CutNl (q : ByteArray) (w : World) (e : Ending) (w' : World) : Prop :=
  ∃ x y n, e = .returned (.tuple #[.string (q.extract 0 (lineN q.data.toList)), .string x, .bool y]) ∧ w' = w.drewN n

set_option maxRecDepth 100000 in
set_option maxHeartbeats 1600000 in
theorem scut_any (q : ByteArray) (w : World) (hs : q.size ≤ 20000) : Calls Tryz.prog 73 #[.string q, .string ⟨#[10]⟩] w (CutNl q w) := by
  have hx := lineN_index q.data.toList
  have hle := lineN_le q.data.toList
  have hlen : q.data.toList.length = q.size := by simp
  rw [hlen] at hx hle
  obtain ⟨n, hn⟩ : ∃ n, lineN q.data.toList = n := ⟨_, rfl⟩
  rw [hn] at hx hle
  have HN := Aside0.mk hn
  clear hn hlen
  by_cases h : n < q.size
  · rw [if_pos h] at hx
    have HC := Aside0.mk (show ∀ w, Calls Tryz.prog 50 #[.string q, .string ⟨#[10]⟩] w fun e w' => e = .returned (.int .i64 (n : Int)) ∧ w = w' from fun w => (Tryz.stringslite_Index_one q 10 w).mono fun e w' ⟨h, k⟩ => ⟨by rw [h, hx], k.symm⟩)
    clear hx
    go_enter Tryz.func73, Tryz.ntmps73
    go_wp2_with (go_at_call 50; refine (HC.out _).mono ?_; rintro e w' ⟨rfl, rfl⟩)
    go_quiet (fail)
    go_wp2
    go_ret3
    exact ⟨_, _, _, by rw [HN.out]; rfl, rfl⟩
  · rw [if_neg h] at hx
    have HC := Aside0.mk (show ∀ w, Calls Tryz.prog 50 #[.string q, .string ⟨#[10]⟩] w fun e w' => e = .returned (.int .i64 (-1 : Int)) ∧ w = w' from fun w => (Tryz.stringslite_Index_one q 10 w).mono fun e w' ⟨h, k⟩ => ⟨by rw [h, hx], k.symm⟩)
    clear hx
    go_enter Tryz.func73, Tryz.ntmps73
    go_wp2_with (go_at_call 50; refine (HC.out _).mono ?_; rintro e w' ⟨rfl, rfl⟩)
    go_ret3
    refine ⟨⟨#[]⟩, false, 0, ?_, rfl⟩
    rw [HN.out, show n = q.size from by omega, ByteArray.extract_zero_size]; rfl

set_option maxRecDepth 100000 in
set_option maxHeartbeats 1600000 in
theorem cut_any (q : ByteArray) (w : World) (hs : q.size ≤ 20000) : Calls Tryz.prog 56 #[.string q, .string ⟨#[10]⟩] w (CutNl q w) := by
  have HC := Aside0.mk (scut_any q w hs)
  go_enter Tryz.func56, Tryz.ntmps56
  go_wp2_with (go_at_call 73; refine HC.out.mono ?_; rintro e w' ⟨x, y, n, rfl, rfl⟩)
  go_ret3
  exact ⟨x, y, n, rfl, rfl⟩


theorem hasPrefix_any (s p : ByteArray) (r : Bool) (w : World) (h : p.data.toList.isPrefixOf s.data.toList = r) : Calls Tryz.prog 34 #[.string s, .string p] w fun e w' => e = .returned (.bool r) ∧ w = w' :=
  (Tryz.strings_HasPrefix s p w).mono fun e w' ⟨he, hw⟩ => ⟨by rw [he]; unfold Lib.hasPrefix; rw [h], hw.symm⟩

/-! ### what stands between tokens -/
/-- How many bytes stand ahead of the next token (m: within a comment). -/
def skipN : Bool → List UInt8 → Nat
  | _, [] => 0
  | true, c :: r => if c = 10 then skipN false r + 1 else skipN true r + 1
  | false, c :: r => if hasS (c.toNat : Int) 1 then skipN false r + 1 else if c = 47 ∧ r.head? = some 47 then skipN true r + 1 else 0
theorem skipN_le : ∀ (m : Bool) (l : List UInt8), skipN m l ≤ l.length
  | _, [] => Nat.le_refl _
  | true, c :: r => by
    unfold skipN
    split <;> exact Nat.succ_le_succ (skipN_le _ r)
  | false, c :: r => by
    unfold skipN
    split
    · exact Nat.succ_le_succ (skipN_le _ r)
    · split
      · exact Nat.succ_le_succ (skipN_le _ r)
      · omega
theorem hasS_10 : hasS 10 1 = true := by decide +kernel
theorem hasS_47 : hasS 47 1 = false := by decide +kernel
/-- Within a comment: up to the line's end, and on. -/
theorem skipN_true (l : List UInt8) : skipN true l = lineN l + skipN false (l.drop (lineN l)) := by
  induction l with
  | nil => rfl
  | cons c r ih =>
    by_cases h : c = 10
    · subst h
      have h0 : lineN (10 :: r) = 0 := rfl
      rw [h0]
      simp [skipN, hasS_10]
    · have h0 : lineN (c :: r) = lineN r + 1 := by simp [lineN, List.takeWhile_cons, h]
      rw [h0]
      simp [skipN, h, ih]
      omega
theorem skipN_comment (r : List UInt8) : skipN false (47 :: 47 :: r) = lineN (47 :: 47 :: r) + skipN false ((47 :: 47 :: r).drop (lineN (47 :: 47 :: r))) := by
  rw [← skipN_true]
  have h : hasS 47 1 = false := hasS_47
  simp [skipN, h]

theorem extract_list (s : ByteArray) (p : Nat) : (s.extract p s.size).data.toList = s.data.toList.drop p := by
  simp
  rw [List.take_of_length_le (by simp)]
theorem extract_take (s : ByteArray) (p n : Nat) : (s.extract p (p + n)).data.toList = (s.data.toList.drop p).take n := by
  simp
theorem drop_cons_at (s : ByteArray) (p : Nat) (h : p < s.size) : s.data.toList.drop p = s[p] :: s.data.toList.drop (p + 1) := by
  rw [List.drop_eq_getElem_cons (by simpa using h)]; rfl
theorem nls_add (l : List UInt8) (a d n : Nat) : nls ((l.drop a).take (d + n)) = nls ((l.drop a).take d) + nls ((l.drop (a + d)).take n) := by
  rw [List.take_add, nls, List.count_append, List.drop_drop]; rfl
theorem skipN_blank {c : UInt8} {r : List UInt8} (h : hasS (c.toNat : Int) 1 = true) : skipN false (c :: r) = 1 + skipN false r := by
  simp [skipN, h]; omega
theorem skipN_stop {c : UInt8} {r : List UInt8} (h : hasS (c.toNat : Int) 1 = false) (h2 : List.isPrefixOf [47, 47] (c :: r) = false) : skipN false (c :: r) = 0 := by
  have h3 : ¬ (c = 47 ∧ r.head? = some 47) := by
    rintro ⟨rfl, hr⟩
    cases r with
    | nil => simp at hr
    | cons x r => simp at hr; subst hr; simp [List.isPrefixOf] at h2
  simp only [skipN, h, Bool.false_eq_true, if_false, if_neg h3]
theorem skipN_line {l : List UInt8} (h : List.isPrefixOf [47, 47] l = true) : skipN false l = lineN l + skipN false (l.drop (lineN l)) := by
  obtain ⟨r, rfl⟩ := List.isPrefixOf_iff_prefix.1 h
  exact skipN_comment r

theorem lx_step {w' : World} {b : Nat} {s : ByteArray} {at_ d p line l2 n : Nat} {err : Value} (hp : at_ + d = p) (hl : line + nls ((s.data.toList.drop at_).take d) = l2)
    (h : LX w' b true s (p + n) (l2 + nls (s.extract p (p + n)).data.toList) err) : LX w' b true s (at_ + (d + n)) (line + nls ((s.data.toList.drop at_).take (d + n))) err := by
  subst hp hl
  rw [extract_take] at h
  rw [nls_add, ← Nat.add_assoc, ← Nat.add_assoc]
  exact h

/-- Behind 'skip'. -/
def Skipped (b : Nat) (s : ByteArray) (at_ line : Nat) (err : Value) (w : World) (e : Ending) (w' : World) : Prop :=
  e = .returned (.tuple #[]) ∧ ∃ n i2, n = skipN false (s.data.toList.drop at_) ∧ LX w' b i2 s (at_ + n) (line + nls ((s.data.toList.drop at_).take n)) err ∧ (at_ + n < s.size → i2 = true) ∧ Fr b w w'

set_option maxRecDepth 100000 in
set_option maxHeartbeats 1600000 in
theorem skip_any (b : Nat) (ini : Bool) (s : ByteArray) (at_ line : Nat) (err : Value) (w : World) (hb : LX w b ini s at_ line err) (hn : at_ ≤ s.size) (hs : s.size ≤ 20000) (hl : line ≤ at_ + 1) :
    Calls Tryz.prog 37 #[.pointer (some ⟨b, 0, none⟩)] w (Skipped b s at_ line err w) := by
  have hbl := blk_lt hb
  have HB := Aside0.mk hb
  clear hb
  go_enter Tryz.func37, Tryz.ntmps37
  go_wp2
  go_step3
  go_wp2
  go_step3
  go_wp2
  go_loopg [] (s.size - at_) (fun gk w' => ∃ d i2, gk = s.size - (at_ + d) ∧ at_ + d ≤ s.size ∧ Aside0 (skipN false (s.data.toList.drop at_) = d + skipN false (s.data.toList.drop (at_ + d))) ∧ Aside0 (LX w' b i2 s (at_ + d) (line + nls ((s.data.toList.drop at_).take d)) err) ∧ Aside0 (Fr b w w'))
  case atStart => exact ⟨0, ini, rfl, hn, ⟨by simp⟩, ⟨by simpa [nls] using HB.out⟩, ⟨Fr.refl _ _⟩⟩
  case round =>
    clear HB
    obtain ⟨d, i2, rfl, hd, HS, HB, HF⟩ := hrel
    have hln : nls ((s.data.toList.drop at_).take d) ≤ d := Nat.le_trans List.count_le_length (List.length_take_le _ _)
    obtain ⟨l2, hl2⟩ : ∃ l2, line + nls ((s.data.toList.drop at_).take d) = l2 := ⟨_, rfl⟩
    have hl3 : l2 ≤ at_ + d + 1 := by omega
    rw [hl2] at HB
    have HL := Aside0.mk hl2
    clear hl2 hln
    obtain ⟨p, hp⟩ : ∃ p, at_ + d = p := ⟨_, rfl⟩
    rw [hp] at HS HB hd hl3
    have HP := Aside0.mk hp
    clear hp
    have hc0 : wr.cell? ⟨b, 259, none⟩ = some (.string s) := lx_at HB.out 0
    have hc1 : wr.cell? ⟨b, 260, none⟩ = some (.int .i64 p) := lx_at HB.out 1
    by_cases hlt : p < s.size
    · have hdec : decide (p < s.size) = true := decide_eq_true hlt
      have hR := drop_cons_at s p hlt
      obtain ⟨c8, hc8⟩ : ∃ c8, s[p] = c8 := ⟨_, rfl⟩
      rw [hc8] at hR
      obtain ⟨c, hc⟩ : ∃ c : Nat, c8.toNat = c := ⟨_, rfl⟩
      have hcn : c < 256 := by rw [← hc]; exact c8.toNat_lt
      have hql := extract_list s p
      have hqs : (s.extract p s.size).size = s.size - p := by simp
      have hq0 : ∀ h : 0 < (s.extract p s.size).size, ((s.extract p s.size)[0]'h).toNat = c := fun h => by
        have : (s.extract p s.size)[0]'h = c8 := by
          rw [← hc8]
          simp [ByteArray.getElem_extract]
        rw [this, hc]
      have HR := Aside0.mk hR
      have HC8 := Aside0.mk hc
      clear hR hc8 hc
      go_wp2
      go_quiet (fail)
      obtain ⟨n1, rfl⟩ : ∃ n1, n1 = nq := ⟨_, rfl⟩
      go_wp2
      go_quiet (fail)
      go_wp2
      obtain ⟨q, hq⟩ : ∃ q, s.extract p s.size = q := ⟨_, rfl⟩
      rw [hq] at hql hqs hq0
      rw [hq]
      have hq1 : 0 < q.size := by omega
      have hq2 : q.size ≤ 20000 := by omega
      have HQ := Aside0.mk hq
      have HQL := Aside0.mk hql
      clear hq hql hc0 hc1
      cases hh : hasS c 1 with
      | true =>
        have HH := Aside0.mk hh
        have HCon := Aside0.mk (show ∀ W, LX W b i2 s p l2 err → Calls Tryz.prog 38 #[.pointer (some ⟨b, 0, none⟩), .int .u8 c, .int .u8 1] W fun e w' => e = .returned (.bool true) ∧ LX w' b true s p l2 err ∧ Fr b W w' from
          fun W h => hh ▸ is_any b i2 _ c 1 W h (by omega) (by omega))
        clear hh
        go_region_with (go_at_call 38; refine (HCon.out _ (by exact HB.out)).mono ?_; rintro e w' ⟨rfl, h1, f1⟩; have HB2 := Aside0.mk h1; have HF2 := Aside0.mk (HF.out.step f1 rfl rfl rfl rfl); clear h1 f1)
        go_wp2_with (go_at_call 55; refine (take_any b true s p l2 1 err _ HB2.out (by omega) hs (by omega)).mono ?_; rintro e w' ⟨rfl, h1, f1⟩; have HB3 := Aside0.mk h1; have HF3 := Aside0.mk (HF2.out.trans f1); clear h1 f1)
        go_roundg (s.size - (at_ + (d + 1)))
        case measure => have := HP.out; omega
        case rel =>
          refine ⟨d + 1, true, rfl, by have := HP.out; omega, ⟨?_⟩, ⟨?_⟩, HF3⟩
          · rw [HS.out, HR.out, skipN_blank (by rw [HC8.out]; exact HH.out), ← HP.out, Nat.add_assoc, Nat.add_assoc]
          · exact lx_step HP.out HL.out HB3.out
      | false =>
        have HH := Aside0.mk hh
        have HCon := Aside0.mk (show ∀ W, LX W b i2 s p l2 err → Calls Tryz.prog 38 #[.pointer (some ⟨b, 0, none⟩), .int .u8 c, .int .u8 1] W fun e w' => e = .returned (.bool false) ∧ LX w' b true s p l2 err ∧ Fr b W w' from
          fun W h => hh ▸ is_any b i2 _ c 1 W h (by omega) (by omega))
        clear hh
        cases hp2 : List.isPrefixOf [47, 47] q.data.toList with
        | true =>
          have HP2 := Aside0.mk hp2
          have hlq := lineN_le q.data.toList
          have hlq2 : q.data.toList.length = q.size := by simp
          rw [hlq2] at hlq
          obtain ⟨n, hn⟩ : ∃ n, lineN q.data.toList = n := ⟨_, rfl⟩
          rw [hn] at hlq
          have hxs : (q.extract 0 n).size = n := by simp; omega
          have HXN := Aside0.mk hn
          clear hp2 hlq2 hn
          go_region_with (go_at_call 38; refine (HCon.out _ (by exact HB.out)).mono ?_; rintro e w' ⟨rfl, h1, f1⟩; have HB2 := Aside0.mk h1; have HF2 := Aside0.mk (HF.out.step f1 rfl rfl rfl rfl); clear h1 f1)
          go_wp2_with fail
          refine (hasPrefix_any q ⟨#[47, 47]⟩ true _ HP2.out).mono ?_
          rintro e w' ⟨rfl, rfl⟩
          go_wp2_with fail
          refine (cut_any q _ hq2).mono ?_
          rintro e w' ⟨x, y, m, rfl, rfl⟩
          rw [HXN.out]
          have hn2 : 2 ≤ n := by
            rw [← HXN.out]
            obtain ⟨r, hr⟩ := List.isPrefixOf_iff_prefix.1 HP2.out
            rw [← hr]; simp [lineN]
          go_wp2_with (go_at_call 55; refine (take_any b true s p l2 n err _ (by exact HB2.out) (by omega) hs (by omega)).mono ?_; rintro e w' ⟨rfl, h1, f1⟩; have HB3 := Aside0.mk h1; have HF3 := Aside0.mk (HF2.out.step f1 rfl rfl rfl rfl); clear h1 f1)
          go_roundg (s.size - (at_ + (d + n)))
          case measure => have := HP.out; omega
          case rel =>
            refine ⟨d + n, true, rfl, by have := HP.out; omega, ⟨?_⟩, ⟨lx_step HP.out HL.out HB3.out⟩, HF3⟩
            have h5 := skipN_line HP2.out
            rw [HQL.out] at h5
            have h6 := HXN.out
            rw [HQL.out] at h6
            rw [HS.out, h5, h6, List.drop_drop, ← HP.out, Nat.add_assoc, Nat.add_assoc]
        | false =>
          have HP2 := Aside0.mk hp2
          clear hp2
          go_region_with (go_at_call 38; refine (HCon.out _ (by exact HB.out)).mono ?_; rintro e w' ⟨rfl, h1, f1⟩; have HB2 := Aside0.mk h1; have HF2 := Aside0.mk (HF.out.step f1 rfl rfl rfl rfl); clear h1 f1)
          go_wp2_with fail
          refine (hasPrefix_any q ⟨#[47, 47]⟩ false _ HP2.out).mono ?_
          rintro e w' ⟨rfl, rfl⟩
          go_wp2
          have h7 : skipN false (s.data.toList.drop p) = 0 := by
            rw [HR.out]
            exact skipN_stop (by rw [HC8.out]; exact HH.out) (by rw [← HR.out, ← HQL.out]; exact HP2.out)
          rw [Exit.noGoto_normal]
          go_end0
          refine ⟨rfl, d, true, by have := HS.out; omega, ?_, fun _ => rfl, HF2.out⟩
          rw [HP.out, HL.out]
          exact HB2.out
    · have hdec : decide (p < s.size) = false := decide_eq_false hlt
      go_wp2
      go_quiet (fail)
      go_wp2
      rw [Exit.noGoto_normal]
      go_end0
      have h7 : s.data.toList.drop p = [] := List.drop_eq_nil_of_le (by simp; omega)
      refine ⟨rfl, d, i2, by rw [HS.out, h7]; rfl, ?_, fun h => absurd h (by have := HP.out; omega), ?_⟩
      · rw [HP.out, HL.out]
        exact HB.out
      · exact HF.out.drewN nq
end Go.Proofs.YtdlfjokhgmngcaaGreatDoor.Lx

/-! The lexer's methods name and mark. -/
namespace Go.Proofs.YtdlfjokhgmngcaaGreatDoor.Lx
open Go.RowKit Go.Shelf Go.Proofs.YtdlfjokhgmngcaaGreatDoorW.PrintWords
set_option linter.unusedVariables false
set_option linter.unusedSimpArgs false

/-- w' is w but for two blocks, and new ones. -/
structure Fr2 (b g : Nat) (w w' : World) : Prop where
  os : w'.os = w.os
  tape : w'.tape = w.tape
  output : w'.output = w.output
  size : w.heap.size ≤ w'.heap.size
  block : ∀ k, k < w.heap.size → k ≠ b → k ≠ g → w'.heap[k]? = w.heap[k]?
theorem Fr2.refl (b g : Nat) (w : World) : Fr2 b g w w := ⟨rfl, rfl, rfl, Nat.le_refl _, fun _ _ _ _ => rfl⟩
theorem Fr2.trans {b g : Nat} {w w1 w2 : World} (h : Fr2 b g w w1) (k : Fr2 b g w1 w2) : Fr2 b g w w2 :=
  ⟨k.os.trans h.os, k.tape.trans h.tape, k.output.trans h.output, Nat.le_trans h.size k.size, fun i hi h1 h2 => (k.block i (Nat.lt_of_lt_of_le hi h.size) h1 h2).trans (h.block i hi h1 h2)⟩
theorem Fr.two {b : Nat} {w w1 : World} (h : Fr b w w1) (g : Nat) : Fr2 b g w w1 :=
  ⟨h.out.os, h.out.tape, h.out.output, h.out.size, fun k hk h1 _ => h.out.block k hk (fun e => h1 (Option.some.inj e))⟩
theorem Fr.two' {g : Nat} {w w1 : World} (h : Fr g w w1) (b : Nat) : Fr2 b g w w1 :=
  ⟨h.out.os, h.out.tape, h.out.output, h.out.size, fun k hk _ h2 => h.out.block k hk (fun e => h2 (Option.some.inj e))⟩
theorem Fr2.drewN {b g : Nat} {w w1 : World} (h : Fr2 b g w w1) (n : Nat) : Fr2 b g w (w1.drewN n) := ⟨h.os, h.tape, h.output, h.size, h.block⟩

/-- A token's block. -/
def TokB (w : World) (g : Nat) (k a l : Int) (t : ByteArray) (n : Int) : Prop := w.heap[g]? = some (.cells #[.int .i64 k, .int .i64 a, .int .i64 l, .string t, .int .i64 n] 31 (0, 0))

set_option maxRecDepth 100000 in
set_option maxHeartbeats 1600000 in
theorem name_long (b g : Nat) (s : ByteArray) (p l : Nat) (err : Value) (k0 a0 l0 n0 : Int) (t0 : ByteArray) (w : World) (hb : LX w b true s p l err) (hg : TokB w g k0 a0 l0 t0 n0) (hn : p ≤ s.size) (hs : s.size ≤ 20000)
    (hlen : 16 < whileN 6 (s.data.toList.drop p)) :
    Calls Tryz.prog 39 #[.pointer (some ⟨b, 0, none⟩), .pointer (some ⟨g, 0, none⟩)] w (Failed b true s p l 4 p w) := by
  have hbl := blk_lt hb
  have HB := Aside0.mk hb
  obtain ⟨n, hnn⟩ : ∃ n, whileN 6 (s.data.toList.drop p) = n := ⟨_, rfl⟩
  rw [hnn] at hlen
  have HW := Aside0.mk (show Calls Tryz.prog 60 #[.pointer (some ⟨b, 0, none⟩), .int .u8 6] w fun e w' => e = .returned (.int .i64 n) ∧ LX w' b true s p l err ∧ Fr b w w' from
    (while_any b s p l err 6 w hb hn hs).mono fun e w' ⟨h1, h2, h3⟩ => ⟨by rw [h1, extract_list, hnn], h2, h3⟩)
  have hd : decide (16 < n) = true := decide_eq_true hlen
  have hd2 : decide ((16 : Int) < (n : Int)) = true := decide_eq_true (by omega)
  clear hb hnn
  go_enter Tryz.func39, Tryz.ntmps39
  go_wp2_with fail
  refine HW.out.mono ?_
  rintro e w1 ⟨rfl, h1, f1⟩
  have HB1 := Aside0.mk h1
  have HF1 := Aside0.mk f1
  have hc1 : w1.cell? ⟨b, 260, none⟩ = some (.int .i64 p) := lx_at h1 1
  clear h1 f1
  go_wp2_with fail
  refine (fail_any b true s p l err 4 p _ HB1.out).mono ?_
  rintro e w2 ⟨rfl, f2, v, h2, h3, g2, hg2, h4⟩
  have HZ := Aside0.mk (show Fr b w w2 ∧ ∃ v, FaultAt w2 v 4 p ∧ LX w2 b true s p l v ∧ ∃ g, w.heap.size ≤ g ∧ v = .iface 56 (.pointer (some ⟨g, 0, none⟩)) from ⟨HF1.out.trans f2, v, h2, h3, g2, Nat.le_trans HF1.out.size hg2, h4⟩)
  clear f2 h2 h3 hg2 h4
  go_wp2
  go_end0
  exact ⟨rfl, HZ.out⟩

/-- Behind a token that is read: n bytes. -/
def Read (b g : Nat) (s : ByteArray) (p l n : Nat) (err : Value) (k a0 l0 n0 : Int) (w : World) (e : Ending) (w' : World) : Prop :=
  e = .returned (.tuple #[]) ∧ Fr2 b g w w' ∧ LX w' b true s (p + n) (l + nls (s.extract p (p + n)).data.toList) err ∧ TokB w' g k a0 l0 (s.extract p (p + n)) n0

theorem tok_cells {w : World} {g : Nat} {k a l : Int} {t : ByteArray} {n : Int} (h : TokB w g k a l t n) :
    w.cell? ⟨g, 0, none⟩ = some (.int .i64 k) ∧ w.cell? ⟨g, 3, none⟩ = some (.string t) ∧ w.cell? ⟨g, 4, none⟩ = some (.int .i64 n) ∧ w.frozen? ⟨g, 0, none⟩ = false ∧ w.frozen? ⟨g, 3, none⟩ = false ∧ w.frozen? ⟨g, 4, none⟩ = false :=
  ⟨blk_cell h 0, blk_cell h 3, blk_cell h 4, blk_frozen h 0, blk_frozen h 3, blk_frozen h 4⟩

set_option maxRecDepth 100000 in
set_option maxHeartbeats 1600000 in
theorem name_ok (b g : Nat) (s : ByteArray) (p l n : Nat) (err : Value) (k0 a0 l0 n0 : Int) (t0 : ByteArray) (w : World) (hb : LX w b true s p l err) (hg : TokB w g k0 a0 l0 t0 n0) (hgb : g ≠ b) (hn : p ≤ s.size) (hs : s.size ≤ 20000) (hl : l ≤ p + 1)
    (hnn : whileN 6 (s.data.toList.drop p) = n) (hlen : n ≤ 16) :
    Calls Tryz.prog 39 #[.pointer (some ⟨b, 0, none⟩), .pointer (some ⟨g, 0, none⟩)] w (Read b g s p l n err 1 a0 l0 n0 w) := by
  have hbl := blk_lt hb
  have HB := Aside0.mk hb
  have HG := Aside0.mk hg
  have hpn : p + n ≤ s.size := by
    have : n ≤ (s.data.toList.drop p).length := by rw [← hnn]; exact List.Sublist.length_le (List.takeWhile_sublist _)
    simp at this
    omega
  have HW := Aside0.mk (show Calls Tryz.prog 60 #[.pointer (some ⟨b, 0, none⟩), .int .u8 6] w fun e w' => e = .returned (.int .i64 n) ∧ LX w' b true s p l err ∧ Fr b w w' from
    (while_any b s p l err 6 w hb hn hs).mono fun e w' ⟨h1, h2, h3⟩ => ⟨by rw [h1, extract_list, hnn], h2, h3⟩)
  have hd2 : decide ((16 : Int) < (n : Int)) = false := decide_eq_false (by omega)
  clear hb hnn hg
  go_enter Tryz.func39, Tryz.ntmps39
  go_wp2_with fail
  refine HW.out.mono ?_
  rintro e w1 ⟨rfl, h1, f1⟩
  have HB1 := Aside0.mk h1
  have HF1 := Aside0.mk f1
  have HG1 := Aside0.mk (show TokB w1 g k0 a0 l0 t0 n0 from f1.blk HG.out hgb)
  clear h1 f1
  go_wp2_with (go_at_call 55; refine (take_any b true s p l n err _ HB1.out hpn hs (by omega)).mono ?_; rintro e w2 ⟨rfl, h2, f2⟩; have HB2 := Aside0.mk h2; have HF2 := Aside0.mk (HF1.out.trans f2); have HG2 := Aside0.mk (show TokB w2 g k0 a0 l0 t0 n0 from f2.blk HG1.out hgb); obtain ⟨c1, c2, c3, z1, z2, z3⟩ := tok_cells HG2.out; clear h2 f2)
  go_end0
  refine ⟨rfl, ((HF2.out.two g).trans (((Fr.refl g _).set 0 _).set 3 _ |>.two' b)), ?_, blk_set (blk_set HG2.out 0 _) 3 _⟩
  exact blk_far (blk_far HB2.out (Ne.symm hgb) _) (Ne.symm hgb) _

/-- The marks of two signs. -/
def twosL : List (List UInt8) := [[60, 60], [62, 62], [60, 61], [62, 61], [61, 61], [33, 61]]
def markN (l : List UInt8) : Nat := if twosL.any (fun m => m.isPrefixOf l) then 2 else 1
theorem fields_twos : Lib.fields [60, 60, 32, 62, 62, 32, 60, 61, 32, 62, 61, 32, 61, 61, 32, 33, 61] = twosL := by decide +kernel
theorem fields_any (w : World) (htab : Lib.TabIs Tryz.prog w "strings.asciiSpace" .u8 Lib.asciiSpaceTab) :
    Calls Tryz.prog 65 #[.string ⟨#[60, 60, 32, 62, 62, 32, 60, 61, 32, 62, 61, 32, 61, 61, 32, 33, 61]⟩] w fun e w' =>
      e = .returned (.slice (some ⟨w.heap.size, 0, none⟩) 6 6) ∧ w' = w.alloc (.cells #[.string ⟨#[60, 60]⟩, .string ⟨#[62, 62]⟩, .string ⟨#[60, 61]⟩, .string ⟨#[62, 61]⟩, .string ⟨#[61, 61]⟩, .string ⟨#[33, 61]⟩] 9) := by
  have h := Tryz.strings_Fields ⟨#[60, 60, 32, 62, 62, 32, 60, 61, 32, 62, 61, 32, 61, 61, 32, 33, 61]⟩ w (by decide) (by
    intro j b hb
    have hm := List.mem_of_getElem? hb
    clear hb
    revert hm b
    decide) htab
  simp only [fields_twos] at h
  exact h

set_option maxRecDepth 100000 in
set_option maxHeartbeats 3200000 in
theorem mark_ok (b g : Nat) (s : ByteArray) (p l n : Nat) (err : Value) (k0 a0 l0 n0 : Int) (t0 : ByteArray) (w : World) (hb : LX w b true s p l err) (hg : TokB w g k0 a0 l0 t0 n0) (hgb : g ≠ b) (hn : p < s.size) (hs : s.size ≤ 20000) (hl : l ≤ p + 1)
    (htab : Lib.TabIs Tryz.prog w "strings.asciiSpace" .u8 Lib.asciiSpaceTab) (hnn : markN (s.data.toList.drop p) = n) :
    Calls Tryz.prog 41 #[.pointer (some ⟨b, 0, none⟩), .pointer (some ⟨g, 0, none⟩)] w (Read b g s p l n err 3 a0 l0 n0 w) := by
  have hbl := blk_lt hb
  have hgl := blk_lt hg
  have HB := Aside0.mk hb
  have HG := Aside0.mk hg
  have HT := Aside0.mk htab
  have HNN := Aside0.mk hnn
  have hc0 : w.cell? ⟨b, 259, none⟩ = some (.string s) := lx_at hb 0
  have hc1 : w.cell? ⟨b, 260, none⟩ = some (.int .i64 p) := lx_at hb 1
  clear hb hg htab hnn
  go_enter Tryz.func41, Tryz.ntmps41
  go_wp2
  go_step3
  go_wp2
  go_quiet (fail)
  go_wp2
  go_step3
  go_wp2_with fail
  refine (fields_any _ (by exact HT.out)).mono ?_
  rintro e W ⟨rfl, hW⟩
  have hrow : W.heap[w.heap.size]? = some (.cells #[.string ⟨#[60, 60]⟩, .string ⟨#[62, 62]⟩, .string ⟨#[60, 61]⟩, .string ⟨#[62, 61]⟩, .string ⟨#[61, 61]⟩, .string ⟨#[33, 61]⟩] 9 (0, 0)) := by
    rw [hW]; exact blk_new (w.drewN nq) _
  have HB1 := Aside0.mk (show LX W b true s p l err by rw [hW]; exact lx_alloc (lx_drewN HB.out nq) _)
  have HG1 := Aside0.mk (show TokB W g k0 a0 l0 t0 n0 by rw [hW]; exact blk_alloc (blk_drewN HG.out nq) _)
  have HF1 := Aside0.mk (show Fr b w W by rw [hW]; exact ((Fr.refl b w).drewN nq).alloc _)
  have r0 : W.cell? ⟨w.heap.size, 0, none⟩ = some (.string ⟨#[60, 60]⟩) := blk_cell hrow 0
  have r1 : W.cell? ⟨w.heap.size, 1, none⟩ = some (.string ⟨#[62, 62]⟩) := blk_cell hrow 1
  have r2 : W.cell? ⟨w.heap.size, 2, none⟩ = some (.string ⟨#[60, 61]⟩) := blk_cell hrow 2
  have r3 : W.cell? ⟨w.heap.size, 3, none⟩ = some (.string ⟨#[62, 61]⟩) := blk_cell hrow 3
  have r4 : W.cell? ⟨w.heap.size, 4, none⟩ = some (.string ⟨#[61, 61]⟩) := blk_cell hrow 4
  have r5 : W.cell? ⟨w.heap.size, 5, none⟩ = some (.string ⟨#[33, 61]⟩) := blk_cell hrow 5
  clear hW hrow hc0 hc1
  have hql := extract_list s p
  obtain ⟨q, hq⟩ : ∃ q, s.extract p s.size = q := ⟨_, rfl⟩
  rw [hq] at hql
  rw [hq]
  have HQL := Aside0.mk hql
  clear hql hq
  have hrow : ∀ k, k < 6 → ∃ m : ByteArray, W.cell? ⟨w.heap.size, k, none⟩ = some (.string m) ∧ m.size = 2 ∧ twosL[k]? = some m.data.toList := by
    intro k hk
    match k, hk with
    | 0, _ => exact ⟨_, r0, rfl, rfl⟩
    | 1, _ => exact ⟨_, r1, rfl, rfl⟩
    | 2, _ => exact ⟨_, r2, rfl, rfl⟩
    | 3, _ => exact ⟨_, r3, rfl, rfl⟩
    | 4, _ => exact ⟨_, r4, rfl, rfl⟩
    | 5, _ => exact ⟨_, r5, rfl, rfl⟩
    | n + 6, h => omega
  have HRow := Aside0.mk hrow
  clear hrow r0 r1 r2 r3 r4 r5
  have HPN := Aside0.mk (show p + n ≤ s.size by
    have := HNN.out
    unfold markN at this
    split at this
    · rename_i h
      have h2 : 2 ≤ (s.data.toList.drop p).length := by
        obtain ⟨m, hm, hp⟩ := List.any_eq_true.1 h
        have h3 := (List.isPrefixOf_iff_prefix.1 hp).length_le
        have h4 : m.length = 2 := by
          revert hm; clear hp h3 h this; revert m; decide
        omega
      simp at h2
      omega
    · omega)
  go_wp2
  go_loopw [4, 19] (fun v i wr => ∃ k : Nat, k ≤ 6 ∧ v = .int .i64 1 ∧ i = .int .i64 k ∧ Aside0 (∀ m ∈ twosL.take k, m.isPrefixOf q.data.toList = false) ∧ Aside0 (wr = W)) (fun _ i _ => 6 - (intOf i).toNat)
  case atStart => exact ⟨0, by omega, rfl, rfl, ⟨fun m h => absurd h (by simp)⟩, ⟨rfl⟩⟩
  case round =>
    obtain ⟨k, hk, rfl, rfl, HA, ⟨hWw⟩⟩ := hrel
    subst hWw
    by_cases hlt : k < 6
    · obtain ⟨m, hm1, hm2, hm3⟩ := HRow.out k hlt
      have HM3 := Aside0.mk hm3
      clear hm3
      cases hp : m.data.toList.isPrefixOf q.data.toList with
      | true =>
        have HP := Aside0.mk hp
        clear hp
        obtain rfl : n = 2 := by
          rw [← HNN.out, ← HQL.out, markN, if_pos]
          exact List.any_eq_true.2 ⟨_, List.mem_of_getElem? HM3.out, HP.out⟩
        go_wp2_with (first | (go_at_call 34; refine (hasPrefix_any q m true _ HP.out).mono ?_; rintro e w' ⟨rfl, rfl⟩) | (go_at_call 55; refine (take_any b true s p l 2 err _ HB1.out HPN.out hs (by omega)).mono ?_; rintro e w2 ⟨rfl, h2, f2⟩; have HB2 := Aside0.mk h2; have HF2 := Aside0.mk (HF1.out.trans f2); have HG2 := Aside0.mk (show TokB w2 g k0 a0 l0 t0 n0 from f2.blk HG1.out hgb); obtain ⟨c1, c2, c3, z1, z2, z3⟩ := tok_cells HG2.out; clear h2 f2))
        go_end0
        refine ⟨rfl, ((HF2.out.two g).trans (((Fr.refl g _).set 0 _).set 3 _ |>.two' b)), ?_, blk_set (blk_set HG2.out 0 _) 3 _⟩
        exact blk_far (blk_far HB2.out (Ne.symm hgb) _) (Ne.symm hgb) _
      | false =>
        have HP := Aside0.mk hp
        clear hp
        go_wp2_with (go_at_call 34; refine (hasPrefix_any q m false _ HP.out).mono ?_; rintro e w' ⟨rfl, rfl⟩)
        go_roundw
        case rel =>
          refine ⟨k + 1, by omega, rfl, by go_num, ⟨?_⟩, by first | exact ⟨rfl⟩ | exact ⟨trivial⟩⟩
          intro m' hm'
          rw [List.take_add_one, List.mem_append] at hm'
          rcases hm' with h | h
          · exact HA.out m' h
          · rw [HM3.out] at h
            obtain rfl : m' = m.data.toList := by simpa using h
            exact HP.out
        case measure => simp [intOf]; omega
    · obtain rfl : k = 6 := by omega
      obtain rfl : n = 1 := by
        rw [← HNN.out, ← HQL.out, markN, if_neg]
        intro h
        obtain ⟨m, hm, hp⟩ := List.any_eq_true.1 h
        have := HA.out m (by simpa [twosL] using hm)
        rw [this] at hp
        cases hp
      go_wp2_with (go_at_call 55; refine (take_any b true s p l 1 err _ HB1.out HPN.out hs (by omega)).mono ?_; rintro e w2 ⟨rfl, h2, f2⟩; have HB2 := Aside0.mk h2; have HF2 := Aside0.mk (HF1.out.trans f2); have HG2 := Aside0.mk (show TokB w2 g k0 a0 l0 t0 n0 from f2.blk HG1.out hgb); obtain ⟨c1, c2, c3, z1, z2, z3⟩ := tok_cells HG2.out; clear h2 f2)
      go_end0
      refine ⟨rfl, ((HF2.out.two g).trans (((Fr.refl g _).set 0 _).set 3 _ |>.two' b)), ?_, blk_set (blk_set HG2.out 0 _) 3 _⟩
      exact blk_far (blk_far HB2.out (Ne.symm hgb) _) (Ne.symm hgb) _

end Go.Proofs.YtdlfjokhgmngcaaGreatDoor.Lx
