/- The closure that tells where a number's digits end, and where IndexFunc finds that. -/
import Derived.Test.YtdlfjokhgmngcaaGreatDoorLexN
namespace Go.Proofs.YtdlfjokhgmngcaaGreatDoor.Lx
open Go.RowKit Go.Shelf Go.Proofs.YtdlfjokhgmngcaaGreatDoorW.PrintWords
set_option linter.unusedVariables false
set_option linter.unusedSimpArgs false

def digB (x : Nat) : Bool := decide (48 ≤ x ∧ x ≤ 57)
def hexB (x : Nat) : Bool := decide (48 ≤ x ∧ x ≤ 57) || decide (97 ≤ x ∧ x ≤ 102) || decide (65 ≤ x ∧ x ≤ 70)
def decS : ByteArray := ⟨#[48, 49, 50, 51, 52, 53, 54, 55, 56, 57]⟩
def hexS : ByteArray := ⟨#[48, 49, 50, 51, 52, 53, 54, 55, 56, 57, 97, 98, 99, 100, 101, 102, 65, 66, 67, 68, 69, 70]⟩

/-- Behind a call that hands back a Bool, and makes memory at most. -/
def GivesB (n : Bool) (w : World) (e : Ending) (w' : World) : Prop := e = .returned (.bool n) ∧ Below w.heap.size w w'

set_option maxRecDepth 100000 in
set_option maxHeartbeats 1600000 in
theorem contains_high (s : ByteArray) (hs : s.size ≤ 1000) (hs4 : 4 ≤ s.size) (hasc : ∀ j (h : j < s.size), (s[j]'h).toNat < 128) (r : Int) (h1 : 128 ≤ r) (h2 : r ≤ 1114111) (w : World) :
    Calls Tryz.prog 62 #[.string s, .int .i32 r] w (GivesB false w) := by
  have HI : Aside0 (∀ w, Calls Tryz.prog 76 #[.string s, .int .i32 r] w (GivesInt (-1) w)) := ⟨fun w => by
    by_cases he : r = 65533
    · subst he; exact indexRune_err s hs hasc w
    · cases hv : Lib.validRune r with
      | true => exact indexRune_high s hs hs4 hasc r h1 h2 he hv w
      | false => exact indexRune_bad s r h1 h2 hv w⟩
  clear hasc
  go_enter Tryz.func62, Tryz.ntmps62
  go_wp2_with (go_at_call 76; refine (HI.out _).mono ?_; rintro e w' ⟨rfl, hb⟩; have HB := Aside0.mk hb; clear hb)
  go_ret
  exact ⟨rfl, HB.out⟩

theorem contains_low (s : ByteArray) (x : Nat) (b : Bool) (hb : decide (0 ≤ Lib.indexByte s.data.toList x.toUInt8) = b) (h : x < 128) (w : World) :
    Calls Tryz.prog 62 #[.string s, .int .i32 x] w (GivesB b w) :=
  (Tryz.strings_ContainsRune_ascii s x w (by omega) (by omega)).mono fun e w' ⟨h1, h2⟩ => ⟨by rw [h1]; simp [hb], h2 ▸ Below.refl _ _⟩

theorem dec_low : ∀ x, x < 128 → decide (0 ≤ Lib.indexByte decS.data.toList x.toUInt8) = digB x := by decide +kernel
theorem hex_low : ∀ x, x < 128 → decide (0 ≤ Lib.indexByte hexS.data.toList x.toUInt8) = hexB x := by decide +kernel
theorem dec_asc : ∀ j (h : j < decS.size), (decS[j]'h).toNat < 128 := by decide +kernel
theorem hex_asc : ∀ j (h : j < hexS.size), (hexS[j]'h).toNat < 128 := by decide +kernel
theorem dig_high {x : Nat} (h : 128 ≤ x) : digB x = false := decide_eq_false (by omega)
theorem hex_high {x : Nat} (h : 128 ≤ x) : hexB x = false := by
  unfold hexB
  rw [decide_eq_false (by omega), decide_eq_false (by omega), decide_eq_false (by omega)]; rfl

theorem contains_dec (x : Nat) (hx : x ≤ 1114111) (w : World) : Calls Tryz.prog 62 #[.string ⟨#[48, 49, 50, 51, 52, 53, 54, 55, 56, 57]⟩, .int .i32 x] w (GivesB (digB x) w) := by
  rcases Nat.lt_or_ge x 128 with h | h
  · exact contains_low decS x _ (dec_low x h) h w
  · rw [dig_high h]; exact contains_high decS (by decide) (by decide) dec_asc x (by omega) (by omega) w
theorem contains_hex (x : Nat) (hx : x ≤ 1114111) (w : World) : Calls Tryz.prog 62 #[.string ⟨#[48, 49, 50, 51, 52, 53, 54, 55, 56, 57, 97, 98, 99, 100, 101, 102, 65, 66, 67, 68, 69, 70]⟩, .int .i32 x] w (GivesB (hexB x) w) := by
  rcases Nat.lt_or_ge x 128 with h | h
  · exact contains_low hexS x _ (hex_low x h) h w
  · rw [hex_high h]; exact contains_high hexS (by decide) (by decide) hex_asc x (by omega) (by omega) w

/-- Is a rune no digit to the base? -/
def stopB (base : Int) (x : Nat) : Bool := if base = 10 then !digB x else !hexB x

set_option maxRecDepth 100000 in
set_option maxHeartbeats 1600000 in
theorem number1_16 (g : Nat) (x : Nat) (hx : x ≤ 1114111) (w : World) (hc : w.cell? ⟨g, 0, none⟩ = some (.int .i64 16)) :
    Calls Tryz.prog 61 #[.int .i32 x, .pointer (some ⟨g, 0, none⟩)] w (GivesB (stopB 16 x) w) := by
  obtain ⟨v, hv⟩ : ∃ v, hexB x = v := ⟨_, rfl⟩
  have HC := Aside0.mk (contains_hex x hx w)
  rw [hv] at HC
  have HV := Aside0.mk hv
  clear hv
  go_enter Tryz.func61, Tryz.ntmps61
  go_wp2_with (go_at_call 62; refine HC.out.mono ?_; rintro e w' ⟨rfl, hb⟩; have HB := Aside0.mk hb; clear hb)
  go_ret
  exact ⟨by rw [stopB, if_neg (by decide), HV.out]; rfl, HB.out⟩

set_option maxRecDepth 100000 in
set_option maxHeartbeats 1600000 in
theorem number1_10 (g : Nat) (x : Nat) (hx : x ≤ 1114111) (w : World) (hc : w.cell? ⟨g, 0, none⟩ = some (.int .i64 10)) :
    Calls Tryz.prog 61 #[.int .i32 x, .pointer (some ⟨g, 0, none⟩)] w (GivesB (stopB 10 x) w) := by
  have HD := Aside0.mk (contains_dec x hx w)
  cases hv : digB x with
  | true =>
    rw [hv] at HD
    have hh : hexB x = true := by
      unfold digB at hv
      unfold hexB
      rw [hv]; rfl
    have HH := Aside0.mk (fun w => contains_hex x hx w)
    rw [hh] at HH
    have HV := Aside0.mk hv
    clear hv hh
    go_enter Tryz.func61, Tryz.ntmps61
    go_wp2_with fail
    refine HD.out.mono ?_
    rintro e w1 ⟨rfl, hb⟩
    have HB := Aside0.mk hb
    clear hb
    go_wp2_with fail
    refine (HH.out w1).mono ?_
    rintro e w2 ⟨rfl, hb⟩
    have HB2 := Aside0.mk (below_step HB.out hb)
    clear hb
    go_wp2
    go_ret
    exact ⟨by rw [stopB, if_pos rfl, HV.out]; rfl, HB2.out⟩
  | false =>
    rw [hv] at HD
    have HV := Aside0.mk hv
    clear hv
    go_enter Tryz.func61, Tryz.ntmps61
    go_wp2_with (go_at_call 62; refine HD.out.mono ?_; rintro e w' ⟨rfl, hb⟩; have HB := Aside0.mk hb; clear hb)
    go_ret
    exact ⟨by rw [stopB, if_pos rfl, HV.out]; rfl, HB.out⟩

theorem stop_high {base : Int} {x : Nat} (h : 128 ≤ x) : stopB base x = true := by
  unfold stopB
  rw [dig_high h, hex_high h]; split <;> rfl

/-- How many digits to the base stand at the head. -/
def digN (base : Int) (l : List UInt8) : Nat := (l.takeWhile fun c => !stopB base c.toNat).length

theorem idx_from (base : Int) (s : ByteArray) : ∀ (f pos : Nat), s.size ≤ pos + f →
    Lib.idxFuncFrom (stopB base) true s f pos = if pos + digN base (s.data.toList.drop pos) < s.size then ((pos + digN base (s.data.toList.drop pos) : Nat) : Int) else -1
  | 0, pos, h => by
    rw [if_neg (by omega)]; rfl
  | f + 1, pos, h => by
    unfold Lib.idxFuncFrom
    by_cases hp : pos < s.size
    · rw [if_pos hp, drop_cons_at s pos hp]
      by_cases ha : (s[pos]).toNat < 128
      · have hd : Utf8.decode s pos = ((s[pos]).toNat, 1) := decode_ascii s pos hp ha
        rw [hd]
        cases hst : stopB base (s[pos]).toNat with
        | true =>
          simp only [if_true]
          have : digN base (s[pos] :: s.data.toList.drop (pos + 1)) = 0 := by simp [digN, List.takeWhile_cons, hst]
          rw [this, if_pos (by omega)]; rfl
        | false =>
          simp only [Bool.false_eq_true, if_false]
          have : digN base (s[pos] :: s.data.toList.drop (pos + 1)) = digN base (s.data.toList.drop (pos + 1)) + 1 := by simp [digN, List.takeWhile_cons, hst]
          rw [this, idx_from base s f (pos + 1) (by omega)]
          rw [show pos + (digN base (s.data.toList.drop (pos + 1)) + 1) = pos + 1 + digN base (s.data.toList.drop (pos + 1)) from by omega]
      · have hd := decode_high s pos hp (by omega)
        have h1 : stopB base (Utf8.decode s pos).1 = true := stop_high hd.1
        have h2 : stopB base (s[pos]).toNat = true := stop_high (by omega)
        rw [h1]
        simp only [if_true]
        have : digN base (s[pos] :: s.data.toList.drop (pos + 1)) = 0 := by simp [digN, List.takeWhile_cons, h2]
        rw [this, if_pos (by omega)]; rfl
    · rw [if_neg hp, if_neg (by omega)]

/-- Behind 'IndexFunc' of a number's digits. -/
theorem index_any (base : Int) (hbase : base = 10 ∨ base = 16) (g : Nat) (s : ByteArray) (w : World) (hc : w.cell? ⟨g, 0, none⟩ = some (.int .i64 base)) :
    Calls Tryz.prog 63 #[.string s, .func (.func 61) #[] #[.pointer (some ⟨g, 0, none⟩)]] w (GivesInt (if digN base s.data.toList < s.size then (digN base s.data.toList : Int) else -1) w) := by
  have hgl := World.block_lt_of_cell? w _ hc
  have hp : PredGrows Tryz.prog 61 #[.pointer (some ⟨g, 0, none⟩)] (stopB base) w := by
    intro W x hx hb
    have hc' := (hb.cell (p := ⟨g, 0, none⟩) hgl).trans hc
    rcases hbase with rfl | rfl
    · exact number1_10 g x hx W hc'
    · exact number1_16 g x hx W hc'
  refine (Tryz.strings_IndexFunc_grows 61 _ (enters_of Tryz.func61 (by kernel_rfl) rfl) (stopB base) s w hp).mono ?_
  rintro e w' ⟨rfl, hb⟩
  have h := idx_from base s s.size 0 (by omega)
  rw [List.drop_zero, Nat.zero_add] at h
  exact ⟨by rw [← h]; rfl, hb⟩

end Go.Proofs.YtdlfjokhgmngcaaGreatDoor.Lx
