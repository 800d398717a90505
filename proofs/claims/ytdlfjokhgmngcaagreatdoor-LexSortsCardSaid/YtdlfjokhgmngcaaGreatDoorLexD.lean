/- The lexer's methods skip, name, mark. -/
import Derived.Test.YtdlfjokhgmngcaaGreatDoorLexC
namespace Go.Proofs.YtdlfjokhgmngcaaGreatDoor.Lx
open Go.RowKit Go.Shelf Go.Proofs.YtdlfjokhgmngcaaGreatDoorW.PrintWords
set_option linter.unusedVariables false
set_option linter.unusedSimpArgs false

/-- How many bytes stand ahead of the line's end. -/
def lineN (l : List UInt8) : Nat := (l.takeWhile fun c => c != 10).length
theorem lineN_index : ∀ l : List UInt8, Lib.indexByte l 10 = if lineN l < l.length then (lineN l : Int) else -1
  | [] => rfl
  | c :: l => by
    have ih := lineN_index l
    unfold Lib.indexByte
    by_cases h : c = 10
    · subst h; simp [lineN]
    · have hb : (c == 10) = false := by simpa using h
      have hl : lineN (c :: l) = lineN l + 1 := by simp [lineN, List.takeWhile_cons, h]
      rw [hb, hl]
      simp only [Bool.false_eq_true, if_false, List.length_cons]
      rw [ih]
      by_cases h2 : lineN l < l.length
      · have : ((lineN l : Int) == -1) = false := beq_eq_false_iff_ne.2 (by omega)
        have h3 : lineN l + 1 < l.length + 1 := by omega
        simp [h2, h3, this]
      · have h3 : ¬ lineN l + 1 < l.length + 1 := by omega
        simp [h2, h3]
theorem lineN_le (l : List UInt8) : lineN l ≤ l.length := by
  unfold lineN; exact List.Sublist.length_le (List.takeWhile_sublist _)

/-- What 'Cut' at a line end gives: what stands ahead of it. -/
def CutNl (q : ByteArray) (w : World) (e : Ending) (w' : World) : Prop :=
  ∃ x y n, e = .returned (.tuple #[.string (q.extract 0 (lineN q.data.toList)), .string x, .bool y]) ∧ w' = w.drewN n

set_option maxRecDepth 100000 in
set_option maxHeartbeats 1600000 in
theorem scut_any (q : ByteArray) (w : World) (hs : q.size ≤ 20000) : Calls Tryz.prog 73 #[.string q, .string ⟨#[10]⟩] w (CutNl q w) := by
  have hx := lineN_index q.data.toList
  have hle := lineN_le q.data.toList
  have hlen : q.data.toList.length = q.size := by simp
  rw [hlen] at hx hle
  obtain ⟨n, hn⟩ : ∃ n, lineN q.data.toList = n := ⟨_, rfl⟩
  rw [hn] at hx hle
  have HN := Aside0.mk hn
  clear hn hlen
  by_cases h : n < q.size
  · rw [if_pos h] at hx
    have HC := Aside0.mk (show ∀ w, Calls Tryz.prog 50 #[.string q, .string ⟨#[10]⟩] w fun e w' => e = .returned (.int .i64 (n : Int)) ∧ w = w' from fun w => (Tryz.stringslite_Index_one q 10 w).mono fun e w' ⟨h, k⟩ => ⟨by rw [h, hx], k.symm⟩)
    clear hx
    go_enter Tryz.func73, Tryz.ntmps73
    go_wp2_with (go_at_call 50; refine (HC.out _).mono ?_; rintro e w' ⟨rfl, rfl⟩)
    go_quiet (fail)
    go_wp2
    go_ret3
    exact ⟨_, _, _, by rw [HN.out]; rfl, rfl⟩
  · rw [if_neg h] at hx
    have HC := Aside0.mk (show ∀ w, Calls Tryz.prog 50 #[.string q, .string ⟨#[10]⟩] w fun e w' => e = .returned (.int .i64 (-1 : Int)) ∧ w = w' from fun w => (Tryz.stringslite_Index_one q 10 w).mono fun e w' ⟨h, k⟩ => ⟨by rw [h, hx], k.symm⟩)
    clear hx
    go_enter Tryz.func73, Tryz.ntmps73
    go_wp2_with (go_at_call 50; refine (HC.out _).mono ?_; rintro e w' ⟨rfl, rfl⟩)
    go_ret3
    refine ⟨⟨#[]⟩, false, 0, ?_, rfl⟩
    rw [HN.out, show n = q.size from by omega, ByteArray.extract_zero_size]; rfl

set_option maxRecDepth 100000 in
set_option maxHeartbeats 1600000 in
theorem cut_any (q : ByteArray) (w : World) (hs : q.size ≤ 20000) : Calls Tryz.prog 56 #[.string q, .string ⟨#[10]⟩] w (CutNl q w) := by
  have HC := Aside0.mk (scut_any q w hs)
  go_enter Tryz.func56, Tryz.ntmps56
  go_wp2_with (go_at_call 73; refine HC.out.mono ?_; rintro e w' ⟨x, y, n, rfl, rfl⟩)
  go_ret3
  exact ⟨x, y, n, rfl, rfl⟩


theorem hasPrefix_any (s p : ByteArray) (r : Bool) (w : World) (h : p.data.toList.isPrefixOf s.data.toList = r) : Calls Tryz.prog 34 #[.string s, .string p] w fun e w' => e = .returned (.bool r) ∧ w = w' :=
  (Tryz.strings_HasPrefix s p w).mono fun e w' ⟨he, hw⟩ => ⟨by rw [he]; unfold Lib.hasPrefix; rw [h], hw.symm⟩

/-! ### what stands between tokens -/
/-- How many bytes stand ahead of the next token (m: within a comment). -/
def skipN : Bool → List UInt8 → Nat
  | _, [] => 0
  | true, c :: r => if c = 10 then skipN false r + 1 else skipN true r + 1
  | false, c :: r => if hasS (c.toNat : Int) 1 then skipN false r + 1 else if c = 47 ∧ r.head? = some 47 then skipN true r + 1 else 0
theorem skipN_le : ∀ (m : Bool) (l : List UInt8), skipN m l ≤ l.length
  | _, [] => Nat.le_refl _
  | true, c :: r => by
    unfold skipN
    split <;> exact Nat.succ_le_succ (skipN_le _ r)
  | false, c :: r => by
    unfold skipN
    split
    · exact Nat.succ_le_succ (skipN_le _ r)
    · split
      · exact Nat.succ_le_succ (skipN_le _ r)
      · omega
theorem hasS_10 : hasS 10 1 = true := by decide +kernel
theorem hasS_47 : hasS 47 1 = false := by decide +kernel
/-- Within a comment: up to the line's end, and on. -/
theorem skipN_true (l : List UInt8) : skipN true l = lineN l + skipN false (l.drop (lineN l)) := by
  induction l with
  | nil => rfl
  | cons c r ih =>
    by_cases h : c = 10
    · subst h
      have h0 : lineN (10 :: r) = 0 := rfl
      rw [h0]
      simp [skipN, hasS_10]
    · have h0 : lineN (c :: r) = lineN r + 1 := by simp [lineN, List.takeWhile_cons, h]
      rw [h0]
      simp [skipN, h, ih]
      omega
theorem skipN_comment (r : List UInt8) : skipN false (47 :: 47 :: r) = lineN (47 :: 47 :: r) + skipN false ((47 :: 47 :: r).drop (lineN (47 :: 47 :: r))) := by
  rw [← skipN_true]
  have h : hasS 47 1 = false := hasS_47
  simp [skipN, h]

theorem extract_list (s : ByteArray) (p : Nat) : (s.extract p s.size).data.toList = s.data.toList.drop p := by
  simp
  rw [List.take_of_length_le (by simp)]
theorem extract_take (s : ByteArray) (p n : Nat) : (s.extract p (p + n)).data.toList = (s.data.toList.drop p).take n := by
  simp
theorem drop_cons_at (s : ByteArray) (p : Nat) (h : p < s.size) : s.data.toList.drop p = s[p] :: s.data.toList.drop (p + 1) := by
  rw [List.drop_eq_getElem_cons (by simpa using h)]; rfl
theorem nls_add (l : List UInt8) (a d n : Nat) : nls ((l.drop a).take (d + n)) = nls ((l.drop a).take d) + nls ((l.drop (a + d)).take n) := by
  rw [List.take_add, nls, List.count_append, List.drop_drop]; rfl
theorem skipN_blank {c : UInt8} {r : List UInt8} (h : hasS (c.toNat : Int) 1 = true) : skipN false (c :: r) = 1 + skipN false r := by
  simp [skipN, h]; omega
theorem skipN_stop {c : UInt8} {r : List UInt8} (h : hasS (c.toNat : Int) 1 = false) (h2 : List.isPrefixOf [47, 47] (c :: r) = false) : skipN false (c :: r) = 0 := by
  have h3 : ¬ (c = 47 ∧ r.head? = some 47) := by
    rintro ⟨rfl, hr⟩
    cases r with
    | nil => simp at hr
    | cons x r => simp at hr; subst hr; simp [List.isPrefixOf] at h2
  simp only [skipN, h, Bool.false_eq_true, if_false, if_neg h3]
theorem skipN_line {l : List UInt8} (h : List.isPrefixOf [47, 47] l = true) : skipN false l = lineN l + skipN false (l.drop (lineN l)) := by
  obtain ⟨r, rfl⟩ := List.isPrefixOf_iff_prefix.1 h
  exact skipN_comment r

theorem lx_step {w' : World} {b : Nat} {s : ByteArray} {at_ d p line l2 n : Nat} {err : Value} (hp : at_ + d = p) (hl : line + nls ((s.data.toList.drop at_).take d) = l2)
    (h : LX w' b true s (p + n) (l2 + nls (s.extract p (p + n)).data.toList) err) : LX w' b true s (at_ + (d + n)) (line + nls ((s.data.toList.drop at_).take (d + n))) err := by
  subst hp hl
  rw [extract_take] at h
  rw [nls_add, ← Nat.add_assoc, ← Nat.add_assoc]
  exact h

/-- Behind 'skip'. -/
def Skipped (b : Nat) (s : ByteArray) (at_ line : Nat) (err : Value) (w : World) (e : Ending) (w' : World) : Prop :=
  e = .returned (.tuple #[]) ∧ ∃ n i2, n = skipN false (s.data.toList.drop at_) ∧ LX w' b i2 s (at_ + n) (line + nls ((s.data.toList.drop at_).take n)) err ∧ (at_ + n < s.size → i2 = true) ∧ Fr b w w'

set_option maxRecDepth 100000 in
set_option maxHeartbeats 1600000 in
theorem skip_any (b : Nat) (ini : Bool) (s : ByteArray) (at_ line : Nat) (err : Value) (w : World) (hb : LX w b ini s at_ line err) (hn : at_ ≤ s.size) (hs : s.size ≤ 20000) (hl : line ≤ at_ + 1) :
    Calls Tryz.prog 37 #[.pointer (some ⟨b, 0, none⟩)] w (Skipped b s at_ line err w) := by
  have hbl := blk_lt hb
  have HB := Aside0.mk hb
  clear hb
  go_enter Tryz.func37, Tryz.ntmps37
  go_wp2
  go_step3
  go_wp2
  go_step3
  go_wp2
  go_loopg [] (s.size - at_) (fun gk w' => ∃ d i2, gk = s.size - (at_ + d) ∧ at_ + d ≤ s.size ∧ Aside0 (skipN false (s.data.toList.drop at_) = d + skipN false (s.data.toList.drop (at_ + d))) ∧ Aside0 (LX w' b i2 s (at_ + d) (line + nls ((s.data.toList.drop at_).take d)) err) ∧ Aside0 (Fr b w w'))
  case atStart => exact ⟨0, ini, rfl, hn, ⟨by simp⟩, ⟨by simpa [nls] using HB.out⟩, ⟨Fr.refl _ _⟩⟩
  case round =>
    clear HB
    obtain ⟨d, i2, rfl, hd, HS, HB, HF⟩ := hrel
    have hln : nls ((s.data.toList.drop at_).take d) ≤ d := Nat.le_trans List.count_le_length (List.length_take_le _ _)
    obtain ⟨l2, hl2⟩ : ∃ l2, line + nls ((s.data.toList.drop at_).take d) = l2 := ⟨_, rfl⟩
    have hl3 : l2 ≤ at_ + d + 1 := by omega
    rw [hl2] at HB
    have HL := Aside0.mk hl2
    clear hl2 hln
    obtain ⟨p, hp⟩ : ∃ p, at_ + d = p := ⟨_, rfl⟩
    rw [hp] at HS HB hd hl3
    have HP := Aside0.mk hp
    clear hp
    have hc0 : wr.cell? ⟨b, 259, none⟩ = some (.string s) := lx_at HB.out 0
    have hc1 : wr.cell? ⟨b, 260, none⟩ = some (.int .i64 p) := lx_at HB.out 1
    by_cases hlt : p < s.size
    · have hdec : decide (p < s.size) = true := decide_eq_true hlt
      have hR := drop_cons_at s p hlt
      obtain ⟨c8, hc8⟩ : ∃ c8, s[p] = c8 := ⟨_, rfl⟩
      rw [hc8] at hR
      obtain ⟨c, hc⟩ : ∃ c : Nat, c8.toNat = c := ⟨_, rfl⟩
      have hcn : c < 256 := by rw [← hc]; exact c8.toNat_lt
      have hql := extract_list s p
      have hqs : (s.extract p s.size).size = s.size - p := by simp
      have hq0 : ∀ h : 0 < (s.extract p s.size).size, ((s.extract p s.size)[0]'h).toNat = c := fun h => by
        have : (s.extract p s.size)[0]'h = c8 := by
          rw [← hc8]
          simp [ByteArray.getElem_extract]
        rw [this, hc]
      have HR := Aside0.mk hR
      have HC8 := Aside0.mk hc
      clear hR hc8 hc
      go_wp2
      go_quiet (fail)
      obtain ⟨n1, rfl⟩ : ∃ n1, n1 = nq := ⟨_, rfl⟩
      go_wp2
      go_quiet (fail)
      go_wp2
      obtain ⟨q, hq⟩ : ∃ q, s.extract p s.size = q := ⟨_, rfl⟩
      rw [hq] at hql hqs hq0
      rw [hq]
      have hq1 : 0 < q.size := by omega
      have hq2 : q.size ≤ 20000 := by omega
      have HQ := Aside0.mk hq
      have HQL := Aside0.mk hql
      clear hq hql hc0 hc1
      cases hh : hasS c 1 with
      | true =>
        have HH := Aside0.mk hh
        have HCon := Aside0.mk (show ∀ W, LX W b i2 s p l2 err → Calls Tryz.prog 38 #[.pointer (some ⟨b, 0, none⟩), .int .u8 c, .int .u8 1] W fun e w' => e = .returned (.bool true) ∧ LX w' b true s p l2 err ∧ Fr b W w' from
          fun W h => hh ▸ is_any b i2 _ c 1 W h (by omega) (by omega))
        clear hh
        go_region_with (go_at_call 38; refine (HCon.out _ (by exact HB.out)).mono ?_; rintro e w' ⟨rfl, h1, f1⟩; have HB2 := Aside0.mk h1; have HF2 := Aside0.mk (HF.out.step f1 rfl rfl rfl rfl); clear h1 f1)
        go_wp2_with (go_at_call 55; refine (take_any b true s p l2 1 err _ HB2.out (by omega) hs (by omega)).mono ?_; rintro e w' ⟨rfl, h1, f1⟩; have HB3 := Aside0.mk h1; have HF3 := Aside0.mk (HF2.out.trans f1); clear h1 f1)
        go_roundg (s.size - (at_ + (d + 1)))
        case measure => have := HP.out; omega
        case rel =>
          refine ⟨d + 1, true, rfl, by have := HP.out; omega, ⟨?_⟩, ⟨?_⟩, HF3⟩
          · rw [HS.out, HR.out, skipN_blank (by rw [HC8.out]; exact HH.out), ← HP.out, Nat.add_assoc, Nat.add_assoc]
          · exact lx_step HP.out HL.out HB3.out
      | false =>
        have HH := Aside0.mk hh
        have HCon := Aside0.mk (show ∀ W, LX W b i2 s p l2 err → Calls Tryz.prog 38 #[.pointer (some ⟨b, 0, none⟩), .int .u8 c, .int .u8 1] W fun e w' => e = .returned (.bool false) ∧ LX w' b true s p l2 err ∧ Fr b W w' from
          fun W h => hh ▸ is_any b i2 _ c 1 W h (by omega) (by omega))
        clear hh
        cases hp2 : List.isPrefixOf [47, 47] q.data.toList with
        | true =>
          have HP2 := Aside0.mk hp2
          have hlq := lineN_le q.data.toList
          have hlq2 : q.data.toList.length = q.size := by simp
          rw [hlq2] at hlq
          obtain ⟨n, hn⟩ : ∃ n, lineN q.data.toList = n := ⟨_, rfl⟩
          rw [hn] at hlq
          have hxs : (q.extract 0 n).size = n := by simp; omega
          have HXN := Aside0.mk hn
          clear hp2 hlq2 hn
          go_region_with (go_at_call 38; refine (HCon.out _ (by exact HB.out)).mono ?_; rintro e w' ⟨rfl, h1, f1⟩; have HB2 := Aside0.mk h1; have HF2 := Aside0.mk (HF.out.step f1 rfl rfl rfl rfl); clear h1 f1)
          go_wp2_with fail
          refine (hasPrefix_any q ⟨#[47, 47]⟩ true _ HP2.out).mono ?_
          rintro e w' ⟨rfl, rfl⟩
          go_wp2_with fail
          refine (cut_any q _ hq2).mono ?_
          rintro e w' ⟨x, y, m, rfl, rfl⟩
          rw [HXN.out]
          have hn2 : 2 ≤ n := by
            rw [← HXN.out]
            obtain ⟨r, hr⟩ := List.isPrefixOf_iff_prefix.1 HP2.out
            rw [← hr]; simp [lineN]
          go_wp2_with (go_at_call 55; refine (take_any b true s p l2 n err _ (by exact HB2.out) (by omega) hs (by omega)).mono ?_; rintro e w' ⟨rfl, h1, f1⟩; have HB3 := Aside0.mk h1; have HF3 := Aside0.mk (HF2.out.step f1 rfl rfl rfl rfl); clear h1 f1)
          go_roundg (s.size - (at_ + (d + n)))
          case measure => have := HP.out; omega
          case rel =>
            refine ⟨d + n, true, rfl, by have := HP.out; omega, ⟨?_⟩, ⟨lx_step HP.out HL.out HB3.out⟩, HF3⟩
            have h5 := skipN_line HP2.out
            rw [HQL.out] at h5
            have h6 := HXN.out
            rw [HQL.out] at h6
            rw [HS.out, h5, h6, List.drop_drop, ← HP.out, Nat.add_assoc, Nat.add_assoc]
        | false =>
          have HP2 := Aside0.mk hp2
          clear hp2
          go_region_with (go_at_call 38; refine (HCon.out _ (by exact HB.out)).mono ?_; rintro e w' ⟨rfl, h1, f1⟩; have HB2 := Aside0.mk h1; have HF2 := Aside0.mk (HF.out.step f1 rfl rfl rfl rfl); clear h1 f1)
          go_wp2_with fail
          refine (hasPrefix_any q ⟨#[47, 47]⟩ false _ HP2.out).mono ?_
          rintro e w' ⟨rfl, rfl⟩
          go_wp2
          have h7 : skipN false (s.data.toList.drop p) = 0 := by
            rw [HR.out]
            exact skipN_stop (by rw [HC8.out]; exact HH.out) (by rw [← HR.out, ← HQL.out]; exact HP2.out)
          rw [Exit.noGoto_normal]
          go_end0
          refine ⟨rfl, d, true, by have := HS.out; omega, ?_, fun _ => rfl, HF2.out⟩
          rw [HP.out, HL.out]
          exact HB2.out
    · have hdec : decide (p < s.size) = false := decide_eq_false hlt
      go_wp2
      go_quiet (fail)
      go_wp2
      rw [Exit.noGoto_normal]
      go_end0
      have h7 : s.data.toList.drop p = [] := List.drop_eq_nil_of_le (by simp; omega)
      refine ⟨rfl, d, i2, by rw [HS.out, h7]; rfl, ?_, fun h => absurd h (by have := HP.out; omega), ?_⟩
      · rw [HP.out, HL.out]
        exact HB.out
      · exact HF.out.drewN nq
end Go.Proofs.YtdlfjokhgmngcaaGreatDoor.Lx
