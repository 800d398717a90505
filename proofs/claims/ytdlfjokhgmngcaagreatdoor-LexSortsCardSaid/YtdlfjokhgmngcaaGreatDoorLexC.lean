/- The lexer's small methods: fail, take, while. -/
import Derived.Test.YtdlfjokhgmngcaaGreatDoorLexB
import Derived.Test.YtdlfjokhgmngcaaGreatDoorShelf
import Derived.Deep.QuietTactic
import Derived.BigQuiet
import Derived.StillTailTactics
import Derived.WalkSpells
import Derived.IntWalk
namespace Go.Proofs.YtdlfjokhgmngcaaGreatDoor.Lx
open Go.RowKit Go.Shelf Go.Proofs.YtdlfjokhgmngcaaGreatDoorW.PrintWords
set_option linter.unusedVariables false
set_option linter.unusedSimpArgs false

/-- An error that is a fault: its number, its place. -/
def FaultAt (w : World) (v : Value) (code at_ : Int) : Prop := ∃ g, v = .iface 56 (.pointer (some ⟨g, 0, none⟩)) ∧ w.heap[g]? = some (.cells #[.int .i64 code, .int .i64 at_] 37 (0, 0))
theorem FaultAt.keep {w w' : World} {v : Value} {code at_ : Int} (h : FaultAt w v code at_) (hb : ∀ g, g < w.heap.size → (∃ c a, w.heap[g]? = some (.cells #[.int .i64 c, .int .i64 a] 37 (0, 0))) → w'.heap[g]? = w.heap[g]?) : FaultAt w' v code at_ := by
  obtain ⟨g, e, hg⟩ := h
  exact ⟨g, e, (hb g (blk_lt hg) ⟨_, _, hg⟩).trans hg⟩

/-- The lexer's own cells behind the table. -/
def lxt (s : ByteArray) (at_ line : Nat) (err : Value) : List Value := [.string s, .int .i64 at_, .int .i64 line, err]
def LX (w : World) (b : Nat) (ini : Bool) (s : ByteArray) (at_ line : Nat) (err : Value) : Prop := LexB w b ini (lxt s at_ line err)

theorem lx_at {w : World} {b : Nat} {ini : Bool} {tl : List Value} (h : LexB w b ini tl) (j : Nat) : w.cell? ⟨b, 259 + j, none⟩ = tl[j]? := by
  unfold LexB at h
  cases ini <;> exact (blk_cell h _).trans (lexC_t (by first | exact sortsS_len | exact zerosS_len))
theorem lx_free {w : World} {b : Nat} {ini : Bool} {tl : List Value} (h : LexB w b ini tl) (j : Nat) : w.frozen? ⟨b, j, none⟩ = false := blk_frozen h j
theorem lx_set {w : World} {b : Nat} {ini : Bool} {tl : List Value} (h : LexB w b ini tl) (j : Nat) (v : Value) : LexB (w.setCell ⟨b, 259 + j, none⟩ v) b ini (tl.set j v) := by
  unfold LexB at h ⊢
  have h2 := blk_set h (259 + j) v
  cases ini
  · simp only [Bool.false_eq_true, if_false] at h2 ⊢; rwa [lexC_sett v zerosS_len] at h2
  · simp only [if_true] at h2 ⊢; rwa [lexC_sett v sortsS_len] at h2
theorem lx_drewN {w : World} {b : Nat} {ini : Bool} {tl : List Value} (h : LexB w b ini tl) (n : Nat) : LexB (w.drewN n) b ini tl := h
theorem lx_drew {w : World} {b : Nat} {ini : Bool} {tl : List Value} (h : LexB w b ini tl) : LexB w.drew b ini tl := h
theorem lx_alloc {w : World} {b : Nat} {ini : Bool} {tl : List Value} (h : LexB w b ini tl) (o : Obj) : LexB (w.alloc o) b ini tl := blk_alloc h o

/-- Behind 'fail'. -/
def Failed (b : Nat) (ini : Bool) (s : ByteArray) (at_ line : Nat) (code pl : Int) (w : World) (e : Ending) (w' : World) : Prop :=
  e = .returned (.tuple #[]) ∧ Fr b w w' ∧ ∃ v, FaultAt w' v code pl ∧ LX w' b ini s at_ line v ∧ ∃ g, w.heap.size ≤ g ∧ v = .iface 56 (.pointer (some ⟨g, 0, none⟩))

set_option maxRecDepth 100000 in
theorem fail_any (b : Nat) (ini : Bool) (s : ByteArray) (at_ line : Nat) (err : Value) (code pl : Int) (w : World) (hb : LX w b ini s at_ line err) :
    Calls Tryz.prog 42 #[.pointer (some ⟨b, 0, none⟩), .int .i64 code, .int .i64 pl] w (Failed b ini s at_ line code pl w) := by
  have hbl := blk_lt hb
  have HB := Aside0.mk hb
  have hc : w.cell? ⟨b, 262, none⟩ = some err := lx_at HB.out 3
  have hz : w.frozen? ⟨b, 262, none⟩ = false := lx_free HB.out 262
  have hc2 : (w.alloc (.cells #[.int .i64 code, .int .i64 pl] 37)).cell? ⟨b, 262, none⟩ = some err := by rw [World.cell?_alloc_past _ _ _ hbl]; exact hc
  have hz2 : (w.alloc (.cells #[.int .i64 code, .int .i64 pl] 37)).frozen? ⟨b, 262, none⟩ = false := by rw [World.frozen?_alloc_past _ _ _ hbl]; exact hz
  clear hb
  go_enter Tryz.func42, Tryz.ntmps42
  go_wp2
  go_end0
  have hsz : (w.setCell ⟨b, 262, none⟩ (.iface 56 (.pointer (some ⟨w.heap.size, 0, none⟩)))).heap.size = w.heap.size := by simp [World.setCell]
  refine ⟨rfl, ((Fr.refl b w).set _ _).alloc _, _, ⟨w.heap.size, rfl, ?_⟩, lx_alloc (lx_set HB.out 3 _) _, w.heap.size, Nat.le_refl _, rfl⟩
  have := blk_new (w.setCell ⟨b, 262, none⟩ (.iface 56 (.pointer (some ⟨w.heap.size, 0, none⟩)))) (.cells #[.int .i64 code, .int .i64 pl] 37)
  rwa [hsz] at this

/-- How many line ends there are. -/
def nls (l : List UInt8) : Nat := l.count 10

theorem count_nl (q : ByteArray) (w : World) : Calls Tryz.prog 15 #[.string q, .string ⟨#[10]⟩] w fun e w' => e = .returned (.int .i64 (nls q.data.toList)) ∧ w = w' :=
  (Tryz.strings_Count_one q 10 w).mono fun e w' ⟨h, k⟩ => ⟨h, k.symm⟩

/-- Behind 'take'. -/
def Taken (b : Nat) (ini : Bool) (s : ByteArray) (at_ line n : Nat) (err : Value) (w : World) (e : Ending) (w' : World) : Prop :=
  e = .returned (.string (s.extract at_ (at_ + n))) ∧ LX w' b ini s (at_ + n) (line + nls (s.extract at_ (at_ + n)).data.toList) err ∧ Fr b w w'

set_option maxRecDepth 100000 in
set_option maxHeartbeats 1600000 in
theorem take_any (b : Nat) (ini : Bool) (s : ByteArray) (at_ line n : Nat) (err : Value) (w : World) (hb : LX w b ini s at_ line err) (hn : at_ + n ≤ s.size) (hs : s.size ≤ 20000) (hl : line ≤ 100000) :
    Calls Tryz.prog 55 #[.pointer (some ⟨b, 0, none⟩), .int .i64 n] w (Taken b ini s at_ line n err w) := by
  have hbl := blk_lt hb
  have HB := Aside0.mk hb
  have hc0 : w.cell? ⟨b, 259, none⟩ = some (.string s) := lx_at HB.out 0
  have hc1 : w.cell? ⟨b, 260, none⟩ = some (.int .i64 at_) := lx_at HB.out 1
  have hz1 : w.frozen? ⟨b, 260, none⟩ = false := lx_free HB.out 260
  have hz2 : w.frozen? ⟨b, 261, none⟩ = false := lx_free HB.out 261
  clear hb
  go_enter Tryz.func55, Tryz.ntmps55
  go_wp2
  go_quiet (fail)
  go_wp2
  obtain ⟨W, hW⟩ : ∃ W, (w.drewN nq).setCell ⟨b, 260, none⟩ (.int .i64 (↑at_ + ↑n)) = W := ⟨_, rfl⟩
  have HB1 := Aside0.mk (show LX W b ini s (at_ + n) line err by
    rw [← hW]
    have := lx_set (lx_drewN HB.out nq) 1 (.int .i64 ((at_ : Int) + n))
    simpa [LX, lxt] using this)
  have HF1 := Aside0.mk (show Fr b w W by rw [← hW]; exact ((Fr.refl b w).drewN nq).set 260 _)
  rw [hW]
  clear hW hc0 hc1 hz1 hz2
  have hc2 : W.cell? ⟨b, 261, none⟩ = some (.int .i64 line) := lx_at HB1.out 2
  have hz2 : W.frozen? ⟨b, 261, none⟩ = false := lx_free HB1.out 261
  have hcl : nls (s.extract at_ (at_ + n)).data.toList ≤ 20000 := by
    refine Nat.le_trans List.count_le_length ?_
    simp
    omega
  obtain ⟨q, hq⟩ : ∃ q, s.extract at_ (at_ + n) = q := ⟨_, rfl⟩
  rw [hq] at hcl ⊢
  have HQ := Aside0.mk hq
  clear hq
  obtain ⟨c, hc⟩ : ∃ c, nls q.data.toList = c := ⟨_, rfl⟩
  have HC := Aside0.mk (show ∀ w, Calls Tryz.prog 15 #[.string q, .string ⟨#[10]⟩] w fun e w' => e = .returned (.int .i64 c) ∧ w = w' from fun w => hc ▸ count_nl q w)
  rw [hc] at hcl
  have HN := Aside0.mk hc
  clear hc
  have hwr : IntKind.i64.wrap (↑line + ↑c) = (line : Int) + c := IntWalk.i64_in _ (by omega)
  go_region_with (go_at_call 15; refine (HC.out _).mono ?_; rintro e w' ⟨rfl, rfl⟩)
  all_goals
    clear hwr
    go_wp2
    go_ret
    refine ⟨by rw [HQ.out]; rfl, ?_, ((HF1.out.set _ _).drew)⟩
    rw [HQ.out, HN.out]
    have := lx_drew (lx_set HB1.out 2 (.int .i64 ((line : Int) + c)))
    simpa [LX, lxt] using this


theorem take_int (b : Nat) (ini : Bool) (s : ByteArray) (at_ line n : Nat) (err : Value) (m : Int) (w : World) (hm : m = (n : Int)) (hb : LX w b ini s at_ line err) (hn : at_ + n ≤ s.size) (hs : s.size ≤ 20000) (hl : line ≤ 100000) :
    Calls Tryz.prog 55 #[.pointer (some ⟨b, 0, none⟩), .int .i64 m] w (Taken b ini s at_ line n err w) := hm ▸ take_any b ini s at_ line n err w hb hn hs hl

/-- How many bytes of a sort stand at the head. -/
def whileN (m : Int) (l : List UInt8) : Nat := (l.takeWhile fun c => hasS (c.toNat : Int) m).length
theorem takeWhile_len {p : UInt8 → Bool} : ∀ (l : List UInt8) (k : Nat), (∀ j, j < k → ∃ h : j < l.length, p l[j] = true) → (l.length ≤ k ∨ ∃ h : k < l.length, p l[k] = false) → (l.takeWhile p).length = k
  | [], k, h1, h2 => by
    cases k with
    | zero => rfl
    | succ k => obtain ⟨h, _⟩ := h1 0 (by omega); simp at h
  | c :: l, k, h1, h2 => by
    cases k with
    | zero =>
      rcases h2 with h2 | ⟨h, h2⟩
      · simp at h2
      · simp at h2; simp [List.takeWhile_cons, h2]
    | succ k =>
      obtain ⟨_, h0⟩ := h1 0 (by omega)
      simp at h0
      have := takeWhile_len (p := p) l k (fun j hj => by obtain ⟨h, h3⟩ := h1 (j + 1) (by omega); exact ⟨by simpa using h, by simpa using h3⟩) (by
        rcases h2 with h2 | ⟨h, h2⟩
        · exact .inl (by simpa using h2)
        · exact .inr ⟨by simpa using h, by simpa using h2⟩)
      simp [List.takeWhile_cons, h0, this]

/-- Behind 'while'. -/
def Whiled (b : Nat) (s : ByteArray) (at_ line : Nat) (err : Value) (m : Int) (w : World) (e : Ending) (w' : World) : Prop :=
  e = .returned (.int .i64 (whileN m (s.extract at_ s.size).data.toList)) ∧ LX w' b true s at_ line err ∧ Fr b w w'

set_option maxRecDepth 100000 in
set_option maxHeartbeats 1600000 in
theorem while_any (b : Nat) (s : ByteArray) (at_ line : Nat) (err : Value) (m : Int) (w : World) (hb : LX w b true s at_ line err) (hn : at_ ≤ s.size) (hs : s.size ≤ 20000) :
    Calls Tryz.prog 60 #[.pointer (some ⟨b, 0, none⟩), .int .u8 m] w (Whiled b s at_ line err m w) := by
  have hbl := blk_lt hb
  have HB := Aside0.mk hb
  have hc0 : w.cell? ⟨b, 259, none⟩ = some (.string s) := lx_at HB.out 0
  have hc1 : w.cell? ⟨b, 260, none⟩ = some (.int .i64 at_) := lx_at HB.out 1
  clear hb
  go_enter Tryz.func60, Tryz.ntmps60
  go_wp2
  go_quiet (fail)
  go_wp2
  have hqs : (s.extract at_ s.size).size = s.size - at_ := by simp
  obtain ⟨q, hq⟩ : ∃ q, s.extract at_ s.size = q := ⟨_, rfl⟩
  rw [hq] at hqs ⊢
  rw [← hqs]
  have HQ := Aside0.mk hq
  have hqm : q.size ≤ 20000 := by omega
  have HB0 := Aside0.mk (show LX (w.drewN nq) b true s at_ line err from HB.out)
  have HF0 := Aside0.mk ((Fr.refl b w).drewN nq)
  clear hq hqs hc0 hc1 HB
  generalize w.drewN nq = W at *
  go_loopw [18] (fun i wr => ∃ k : Nat, k ≤ q.size ∧ i = .int .i64 k ∧ Aside0 (∀ j, j < k → ∃ h : j < q.size, hasS ((q[j]'h).toNat : Int) m = true) ∧ Aside0 (LX wr b true s at_ line err) ∧ Aside0 (Fr b w wr)) (fun i _ => q.size - (intOf i).toNat)
  case atStart => exact ⟨0, Nat.zero_le _, rfl, ⟨fun j h => absurd h (Nat.not_lt_zero j)⟩, HB0, HF0⟩
  case round =>
    clear HB0 HF0
    obtain ⟨k, hk, rfl, HA, HB1, HF1⟩ := hrel
    by_cases hlt : k < q.size
    · have hcn : (q[k]).toNat < 256 := (q[k]).toNat_lt
      obtain ⟨c, hc⟩ : ∃ c : Nat, (q[k]).toNat = c := ⟨_, rfl⟩
      have hidx : ∀ h : k < q.size, (q[k]'h).toNat = c := fun _ => hc
      rw [hc] at hcn
      have HC := Aside0.mk hc
      clear hc
      cases hh : hasS c m with
      | true =>
        have HH := Aside0.mk hh
        have hcon : ∀ W, LX W b true s at_ line err → Calls Tryz.prog 38 #[.pointer (some ⟨b, 0, none⟩), .int .u8 c, .int .u8 m] W fun e w' => e = .returned (.bool true) ∧ LX w' b true s at_ line err ∧ Fr b W w' :=
          fun W h => hh ▸ is_any b true _ c m W h (by omega) (by omega)
        have HCon := Aside0.mk hcon
        clear hh hcon
        go_wp2
        go_region_with (go_at_call 38; refine (HCon.out wr.drew HB1.out).mono ?_; rintro e w' ⟨rfl, h1, f1⟩; have HB2 := Aside0.mk h1; have HF2 := Aside0.mk (HF1.out.drew.trans f1); clear h1 f1)
        go_wp2
        go_roundw
        case rel =>
          refine ⟨k + 1, by omega, by go_num, ⟨?_⟩, HB2, HF2⟩
          intro j hj
          rcases Nat.lt_or_ge j k with h | h
          · exact HA.out j h
          · obtain rfl : j = k := by omega
            exact ⟨hlt, by rw [HC.out]; exact HH.out⟩
        case measure => simp [intOf]; omega
      | false =>
        have HH := Aside0.mk hh
        have hcon : ∀ W, LX W b true s at_ line err → Calls Tryz.prog 38 #[.pointer (some ⟨b, 0, none⟩), .int .u8 c, .int .u8 m] W fun e w' => e = .returned (.bool false) ∧ LX w' b true s at_ line err ∧ Fr b W w' :=
          fun W h => hh ▸ is_any b true _ c m W h (by omega) (by omega)
        have HCon := Aside0.mk hcon
        clear hh hcon
        go_wp2
        go_region_with (go_at_call 38; refine (HCon.out wr.drew HB1.out).mono ?_; rintro e w' ⟨rfl, h1, f1⟩; have HB2 := Aside0.mk h1; have HF2 := Aside0.mk (HF1.out.drew.trans f1); clear h1 f1)
        go_wp2
        go_ret
        refine ⟨?_, HB2.out, HF2.out⟩
        rw [HQ.out, whileN, takeWhile_len (p := fun c => hasS (c.toNat : Int) m) q.data.toList k (fun j hj => HA.out j hj) (.inr ⟨hlt, by show hasS ((q[k]).toNat : Int) m = false; rw [HC.out]; exact HH.out⟩)]
        rfl
    · go_wp2
      go_ret
      obtain rfl : k = q.size := by omega
      refine ⟨?_, HB1.out, HF1.out⟩
      rw [HQ.out, whileN, takeWhile_len (p := fun c => hasS (c.toNat : Int) m) q.data.toList q.size (fun j hj => HA.out j hj) (.inl (by simp))]
      rfl
end Go.Proofs.YtdlfjokhgmngcaaGreatDoor.Lx
