/- The table of the bytes' sorts: made once, when it is asked first; asked, it tells whether a byte is of a sort. -/
import Derived.Test.YtdlfjokhgmngcaaGreatDoorLexA
import Derived.Lib.ConvBytes
import Derived.LoopTactic
import Derived.WalkKit
import Derived.BigRegion
import Derived.Shelf.Abstract
namespace Go.Proofs.YtdlfjokhgmngcaaGreatDoor.Lx
open Go.RowKit Go.Shelf Go.Proofs.YtdlfjokhgmngcaaGreatDoorW.PrintWords
set_option linter.unusedVariables false
set_option linter.unusedSimpArgs false

/-- A table's cells, and what stands behind it. -/
def lexC (d m : Int) (S : List Int) (tl : List Value) : Array Value := (.int .u32 d :: .int .i32 m :: .int .u32 0 :: (S.map (Value.int .u8) ++ tl)).toArray
theorem lexC_0 (d m : Int) (S : List Int) (tl : List Value) : (lexC d m S tl)[0]? = some (.int .u32 d) := rfl
theorem lexC_1 (d m : Int) (S : List Int) (tl : List Value) : (lexC d m S tl)[1]? = some (.int .i32 m) := rfl
theorem lexC_s {d m : Int} {S : List Int} {tl : List Value} {c : Nat} (h : c < S.length) : (lexC d m S tl)[3 + c]? = some (.int .u8 (S.getD c 0)) := by
  rw [show 3 + c = c + 1 + 1 + 1 from by omega]
  simp [lexC, List.getElem?_append, h]
theorem lexC_t {d m : Int} {S : List Int} {tl : List Value} {j : Nat} (h : S.length = 256) : (lexC d m S tl)[259 + j]? = tl[j]? := by
  rw [show 259 + j = (256 + j) + 1 + 1 + 1 from by omega]
  simp [lexC, List.getElem?_append, h]
  omega
theorem lexC_set0 (d m x : Int) (S : List Int) (tl : List Value) : (lexC d m S tl).setIfInBounds 0 (.int .u32 x) = lexC x m S tl := rfl
theorem lexC_set1 (d m x : Int) (S : List Int) (tl : List Value) : (lexC d m S tl).setIfInBounds 1 (.int .i32 x) = lexC d x S tl := rfl
theorem lexC_sets {d m x : Int} {S : List Int} {tl : List Value} {c : Nat} (h : c < S.length) : (lexC d m S tl).setIfInBounds (3 + c) (.int .u8 x) = lexC d m (S.set c x) tl := by
  rw [show 3 + c = c + 1 + 1 + 1 from by omega]
  simp [lexC, List.set_append, h, List.map_set]
theorem lexC_sett {d m : Int} {S : List Int} {tl : List Value} {j : Nat} (v : Value) (h : S.length = 256) : (lexC d m S tl).setIfInBounds (259 + j) v = lexC d m S (tl.set j v) := by
  rw [show 259 + j = (256 + j) + 1 + 1 + 1 from by omega]
  simp [lexC, List.set_append, h]

/-- Each of some bytes is given a sort more. -/
def mk1 (k : Int) (S : List Int) (c : UInt8) : List Int := S.set c.toNat (Go.bits .or .u8 (S.getD c.toNat 0) k)
def markF (S : List Int) (l : List UInt8) (k : Int) : List Int := l.foldl (mk1 k) S
theorem markF_len (k : Int) (l : List UInt8) : ∀ S : List Int, (markF S l k).length = S.length := by
  induction l with
  | nil => intro S; rfl
  | cons c l ih => intro S; exact (ih _).trans (by simp [mk1])
theorem markF_snoc (S : List Int) (l : List UInt8) (c : UInt8) (k : Int) : markF S (l ++ [c]) k = mk1 k (markF S l k) c := by simp [markF, List.foldl_append]
theorem take_snoc (s : ByteArray) (k : Nat) (h : k < s.size) : s.data.toList.take (k + 1) = s.data.toList.take k ++ [s[k]] := by
  rw [List.take_succ_eq_append_getElem (by simpa using h)]; rfl

set_option maxRecDepth 100000 in
set_option maxHeartbeats 1600000 in
theorem mark_any (b pb : Nat) (d m : Int) (S : List Int) (tl : List Value) (s : ByteArray) (k : Int) (w : World) (hb : w.heap[b]? = some (.cells (lexC d m S tl) 74 (0, 0)))
    (hp : w.cell? ⟨pb, 0, none⟩ = some (.pointer (some ⟨b, 0, none⟩))) (hS : S.length = 256) (hne : pb ≠ b) (hs : s.size ≤ 1000) :
    Calls Tryz.prog 59 #[.string s, .int .u8 k, .pointer (some ⟨pb, 0, none⟩)] w fun e w' => e = .returned (.tuple #[]) ∧ w'.heap[b]? = some (.cells (lexC d m (markF S s.data.toList k) tl) 74 (0, 0)) ∧ Fr b w w' := by
  have hcv := Lib.run_convert_string_bytes (P := Tryz.prog) w 9 22 5 s Tryz.underlying9 Tryz.underlying22 Tryz.underlying5
  have hbl := blk_lt hb
  have hpl := World.block_lt_of_cell? w _ hp
  have HCell := Aside0.mk (Lib.bytesWorld_cell w 5 s)
  have hb1 := (Lib.bytesWorld_at_old w 5 s b hbl).trans hb
  have hp1 := (Lib.bytesWorld_old w 5 s _ hpl).trans hp
  have hf1 : Fr b w (Lib.bytesWorld w 5 s) := ⟨⟨rfl, rfl, rfl, by rw [Lib.bytesWorld_size]; omega, fun k hk _ => Lib.bytesWorld_at_old w _ s k hk⟩⟩
  have hz1 := Lib.bytesWorld_size w 5 s
  generalize Lib.bytesWorld w 5 s = w1 at *
  have HB := Aside0.mk hb1
  have HP := Aside0.mk hp1
  have HF := Aside0.mk hf1
  have HS := Aside0.mk hS
  have HZ := Aside0.mk hz1
  clear hb hp hb1 hp1 hf1 hS hz1
  go_enter Tryz.func59, Tryz.ntmps59
  go_wp2
  go_loopw [10] (fun i wr => ∃ n : Nat, n ≤ s.size ∧ i = .int .i64 n ∧ Aside0 (wr.heap[b]? = some (.cells (lexC d m (markF S (s.data.toList.take n) k) tl) 74 (0, 0))) ∧ Aside0 (Fr b w1 wr)) (fun i _ => s.size - (intOf i).toNat)
  case atStart => exact ⟨0, Nat.zero_le _, rfl, by simpa [markF] using HB, ⟨Fr.refl _ _⟩⟩
  case round =>
    obtain ⟨n, hn, rfl, HB2, HF2⟩ := hrel
    by_cases hlt : n < s.size
    · have hc : wr.cell? ⟨w.heap.size, n, none⟩ = some (.int .u8 (s[n]).toNat) := by
        have h1 := HCell.out n hlt
        have h2 := HF2.out.out.cell h1 (fun e => by have := Option.some.inj e; simp at this; omega)
        rw [h2]; simp [List.getD_eq_getElem?_getD, hlt]; rfl
      have hpw := HF2.out.out.cell HP.out (fun e => hne (Option.some.inj e))
      have hlen : (markF S (s.data.toList.take n) k).length = 256 := (markF_len _ _ _).trans HS.out
      have hcn : (s[n]).toNat < 256 := (s[n]).toNat_lt
      have hc2 : wr.cell? ⟨b, 3 + (s[n]).toNat, none⟩ = some (.int .u8 ((markF S (s.data.toList.take n) k).getD (s[n]).toNat 0)) := (blk_cell HB2.out _).trans (lexC_s (by omega))
      obtain ⟨x, hx⟩ : ∃ x, (markF S (s.data.toList.take n) k).getD (s[n]).toNat 0 = x := ⟨_, rfl⟩
      rw [hx] at hc2
      have HX := Aside0.mk hx
      clear hx
      have hz2 := blk_frozen HB2.out (3 + (s[n]).toNat)
      go_wp2
      go_region
      all_goals
        go_wp2
        go_roundw
        case rel =>
          refine ⟨n + 1, by omega, by go_num, ⟨?_⟩, ⟨?_⟩⟩
          · rw [take_snoc s n hlt, markF_snoc]
            have h3 := blk_set HB2.out (3 + (s[n]).toNat) (.int .u8 (Go.bits .or .u8 x k))
            rw [lexC_sets (by omega)] at h3
            unfold mk1
            rw [HX.out]
            exact h3
          · exact (HF2.out.set _ _).drew
        case measure => simp [intOf]; omega
    · go_wp2
      go_end0
      obtain rfl : n = s.size := by omega
      refine ⟨rfl, ?_, HF.out.trans HF2.out⟩
      have := HB2.out
      rwa [List.take_of_length_le (by simp)] at this

def blanksL : List UInt8 := [32, 9, 10]
def lettersL : List UInt8 := [97, 98, 99, 100, 101, 102, 103, 104, 105, 106, 107, 108, 109, 110, 111, 112, 113, 114, 115, 116, 117, 118, 119, 120, 121, 122, 65, 66, 67, 68, 69, 70, 71, 72, 73, 74, 75, 76, 77, 78, 79, 80, 81, 82, 83, 84, 85, 86, 87, 88, 89, 90, 95]
def digitsL : List UInt8 := [48, 49, 50, 51, 52, 53, 54, 55, 56, 57]
def singlesL : List UInt8 := [123, 125, 40, 41, 91, 93, 59, 58, 44, 46, 61, 60, 62, 43, 45, 42, 47, 37, 38, 94, 124, 126, 33]
def zerosS : List Int := List.replicate 256 0
def sortsS : List Int := markF (markF (markF (markF zerosS blanksL 1) lettersL 2) digitsL 4) singlesL 8
theorem zerosS_len : zerosS.length = 256 := List.length_replicate
theorem sortsS_len : sortsS.length = 256 := by unfold sortsS; rw [markF_len, markF_len, markF_len, markF_len]; exact zerosS_len
/-- Of which sorts a byte is. -/
def sortOf (c : Nat) : Int := sortsS.getD c 0

set_option maxRecDepth 100000 in
set_option maxHeartbeats 1600000 in
theorem is1_any (b pb : Nat) (d m : Int) (tl : List Value) (w : World) (hb : w.heap[b]? = some (.cells (lexC d m zerosS tl) 74 (0, 0)))
    (hp : w.cell? ⟨pb, 0, none⟩ = some (.pointer (some ⟨b, 0, none⟩))) (hne : pb ≠ b) :
    Calls Tryz.prog 58 #[.pointer (some ⟨pb, 0, none⟩)] w fun e w' => e = .returned (.tuple #[]) ∧ w'.heap[b]? = some (.cells (lexC d m sortsS tl) 74 (0, 0)) ∧ Fr b w w' := by
  have hmf : ∀ (fn : Fn) (first cap : Array Value) (w : World), (Instr.makeFunc fn first cap).run Tryz.prog w = .ok (.func fn first cap) w := fun _ _ _ _ => rfl
  have hpl := World.block_lt_of_cell? w _ hp
  have HB := Aside0.mk hb
  have HP := Aside0.mk hp
  clear hb hp
  go_enter Tryz.func58, Tryz.ntmps58
  go_wp2_with fail
  refine (mark_any b pb d m zerosS tl ⟨#[32, 9, 10]⟩ 1 _ HB.out HP.out zerosS_len hne (by decide)).mono ?_
  rintro e w1 ⟨rfl, h1, f1⟩
  have HB1 := Aside0.mk h1
  have HF1 := Aside0.mk f1
  clear h1 f1
  go_wp2_with fail
  refine (mark_any b pb d m _ tl _ 2 _ HB1.out (HF1.out.out.cell HP.out (fun e => hne (Option.some.inj e))) (by simp only [markF_len]; exact zerosS_len) hne (by decide)).mono ?_
  rintro e w2 ⟨rfl, h1, f1⟩
  have HB2 := Aside0.mk h1
  have HF2 := Aside0.mk (HF1.out.trans f1)
  clear h1 f1
  go_wp2_with fail
  refine (mark_any b pb d m _ tl _ 4 _ HB2.out (HF2.out.out.cell HP.out (fun e => hne (Option.some.inj e))) (by simp only [markF_len]; exact zerosS_len) hne (by decide)).mono ?_
  rintro e w3 ⟨rfl, h1, f1⟩
  have HB3 := Aside0.mk h1
  have HF3 := Aside0.mk (HF2.out.trans f1)
  clear h1 f1
  go_wp2_with fail
  refine (mark_any b pb d m _ tl _ 8 _ HB3.out (HF3.out.out.cell HP.out (fun e => hne (Option.some.inj e))) (by simp only [markF_len]; exact zerosS_len) hne (by decide)).mono ?_
  rintro e w4 ⟨rfl, h1, f1⟩
  have HB4 := Aside0.mk h1
  have HF4 := Aside0.mk (HF3.out.trans f1)
  clear h1 f1
  go_wp2
  go_end0
  exact ⟨rfl, HB4.out, HF4.out⟩

set_option maxRecDepth 100000 in
set_option maxHeartbeats 1600000 in
theorem do_first (b pb : Nat) (tl : List Value) (w : World) (hb : w.heap[b]? = some (.cells (lexC 0 0 zerosS tl) 74 (0, 0)))
    (hp : w.cell? ⟨pb, 0, none⟩ = some (.pointer (some ⟨b, 0, none⟩))) (hne : pb ≠ b) :
    Calls Tryz.prog 57 #[.pointer (some ⟨b, 0, none⟩), .func (.func 58) #[] #[.pointer (some ⟨pb, 0, none⟩)]] w fun e w' => e = .returned (.tuple #[]) ∧ w'.heap[b]? = some (.cells (lexC 1 0 sortsS tl) 74 (0, 0)) ∧ Fr b w w' := by
  have q0 : w.cell? ⟨b, 0, none⟩ = some (.int .u32 0) := blk_cell hb 0
  have hl := run_call_load (P := Tryz.prog) Tryz.func84 (by kernel_rfl) (by kernel_rfl) (by kernel_rfl) .u32 (by kernel_rfl) q0
  have hnot : ∀ (x : Bool) (w : World), (Op.unary .not (.bool x)).run Tryz.prog w = .ok (.bool (!x)) w := fun _ _ => rfl
  have HS := Aside0.mk (slow_any b 74 (lexC 0 0 zerosS tl) (lexC 0 1 sortsS tl) 58 #[.pointer (some ⟨pb, 0, none⟩)] w hb rfl rfl (.int .u32 0) rfl rfl (enters_of Tryz.func58 (by kernel_rfl) rfl)
    (fun w1 h1 f1 => is1_any b pb 0 1 tl w1 h1 (f1.out.cell hp (fun e => hne (Option.some.inj e))) hne))
  clear hb hp
  go_enter Tryz.func57, Tryz.ntmps57
  go_wp2_with (first | (go_at_call 75; refine HS.out.mono ?_; rintro e w' ⟨rfl, h1, f1⟩; have HB1 := Aside0.mk h1; have HF1 := Aside0.mk f1; clear h1 f1) | (go_at_call 74; go_in))
  go_end0
  exact ⟨rfl, HB1.out, HF1.out⟩

theorem do_done (b : Nat) (C : Array Value) (T : TypeId) (fv : Value) (w : World) (hb : w.heap[b]? = some (.cells C T (0, 0))) (h0 : C[0]? = some (.int .u32 1)) :
    Calls Tryz.prog 57 #[.pointer (some ⟨b, 0, none⟩), fv] w fun e w' => e = .returned (.tuple #[]) ∧ w = w' := by
  have q0 : w.cell? ⟨b, 0, none⟩ = some (.int .u32 1) := (blk_cell hb 0).trans h0
  have hl := run_call_load (P := Tryz.prog) Tryz.func84 (by kernel_rfl) (by kernel_rfl) (by kernel_rfl) .u32 (by kernel_rfl) q0
  have hnot : ∀ (x : Bool) (w : World), (Op.unary .not (.bool x)).run Tryz.prog w = .ok (.bool (!x)) w := fun _ _ => rfl
  clear hb h0
  go_enter Tryz.func57, Tryz.ntmps57
  go_wp2
  go_end0
  exact ⟨rfl, rfl⟩

/-- A lexer's block: asked already (the sorts are made), or not. -/
def LexB (w : World) (b : Nat) (ini : Bool) (tl : List Value) : Prop :=
  w.heap[b]? = some (.cells (if ini then lexC 1 0 sortsS tl else lexC 0 0 zerosS tl) 74 (0, 0))

/-- Is a byte of one of some sorts? -/
def hasS (c m : Int) : Bool := (Go.bits .and .u8 (sortOf c.toNat) m) != 0

set_option maxRecDepth 100000 in
set_option maxHeartbeats 1600000 in
theorem is_any (b : Nat) (ini : Bool) (tl : List Value) (c m : Int) (w : World) (hb : LexB w b ini tl) (hc0 : 0 ≤ c) (hc : c < 256) :
    Calls Tryz.prog 38 #[.pointer (some ⟨b, 0, none⟩), .int .u8 c, .int .u8 m] w fun e w' => e = .returned (.bool (hasS c m)) ∧ LexB w' b true tl ∧ Fr b w w' := by
  have hmf : ∀ (fn : Fn) (first cap : Array Value) (w : World), (Instr.makeFunc fn first cap).run Tryz.prog w = .ok (.func fn first cap) w := fun _ _ _ _ => rfl
  have hbl := blk_lt hb
  have HF0 := Aside0.mk ((Fr.refl b w).alloc (.cells #[.pointer (some ⟨b, 0, none⟩)] 113))
  have HP0 : (w.alloc (.cells #[.pointer (some ⟨b, 0, none⟩)] 113)).cell? ⟨w.heap.size, 0, none⟩ = some (.pointer (some ⟨b, 0, none⟩)) := by simp
  have HP := Aside0.mk HP0
  clear HP0
  cases ini with
  | false =>
    have HB := Aside0.mk (show (w.alloc (.cells #[.pointer (some ⟨b, 0, none⟩)] 113)).heap[b]? = some (.cells (lexC 0 0 zerosS tl) 74 (0, 0)) from blk_alloc hb _)
    clear hb
    go_enter Tryz.func38, Tryz.ntmps38
    go_wp2_with fail
    refine (do_first b w.heap.size tl _ HB.out HP.out (by omega)).mono ?_
    rintro e w1 ⟨rfl, h1, f1⟩
    have HB1 := Aside0.mk h1
    have HF1 := Aside0.mk (HF0.out.trans f1)
    have hp1 := f1.out.cell HP.out (fun e => absurd (Option.some.inj e) (by simp; omega))
    have hcell := (blk_cell h1 (3 + c.toNat)).trans (lexC_s (by rw [sortsS_len]; omega))
    obtain ⟨x, hx⟩ : ∃ x, sortsS.getD c.toNat 0 = x := ⟨_, rfl⟩
    rw [hx] at hcell
    have HX := Aside0.mk hx
    clear hx h1 f1
    go_wp2
    go_ret
    refine ⟨?_, HB1.out, HF1.out⟩
    rw [hasS, sortOf, HX.out]; rfl
  | true =>
    have h1 : (w.alloc (.cells #[.pointer (some ⟨b, 0, none⟩)] 113)).heap[b]? = some (.cells (lexC 1 0 sortsS tl) 74 (0, 0)) := blk_alloc hb _
    have HB := Aside0.mk h1
    have hcell := (blk_cell h1 (3 + c.toNat)).trans (lexC_s (by rw [sortsS_len]; omega))
    obtain ⟨x, hx⟩ : ∃ x, sortsS.getD c.toNat 0 = x := ⟨_, rfl⟩
    rw [hx] at hcell
    have HX := Aside0.mk hx
    clear hx h1 hb
    go_enter Tryz.func38, Tryz.ntmps38
    go_wp2_with (go_at_call 57; refine (do_done b _ _ _ _ HB.out (lexC_0 _ _ _ _)).mono ?_; rintro e w1 ⟨rfl, rfl⟩)
    go_ret
    refine ⟨?_, HB.out, HF0.out⟩
    rw [hasS, sortOf, HX.out]; rfl
end Go.Proofs.YtdlfjokhgmngcaaGreatDoor.Lx
