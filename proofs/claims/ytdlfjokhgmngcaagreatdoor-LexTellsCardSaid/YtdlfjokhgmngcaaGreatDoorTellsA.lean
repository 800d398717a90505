/- LexTells: the document's lexer, as it was printed, comes to what the program's comes to: lines, what stands between, numbers. No program in sight. -/
import Derived.Test.YtdlfjokhgmngcaaGreatDoorLexLaw
import Derived.Test.YtdlfjokhgmngcaaGreatDoorLexZ
import Derived.Test.YtdlfjokhgmngcaaGreatDoorPLexTellsx5
namespace Go.Proofs.YtdlfjokhgmngcaaGreatDoor.Lx
open Go.RowKit Go.Shelf Go.Proofs.YtdlfjokhgmngcaaGreatDoorW.PrintWords Go.Proofs.YtdlfjokhgmngcaaGreatDoorW.PrintMore Go.Proofs.YtdlfjokhgmngcaaGreatDoor.PLexTells
set_option linter.unusedVariables false
set_option linter.unusedSimpArgs false

theorem wr {i : Int} (h0 : -1000000000000000 ≤ i) (h1 : i ≤ 1000000000000000) : wrap64 i = i := by unfold wrap64; omega
theorem bt_of {s : ByteArray} {p : Nat} {c : UInt8} {r : List UInt8} (h : s.data.toList.drop p = c :: r) : (p : Int) < s.size ∧ bt s p = (c.toNat : Int) ∧ s.data.toList.drop (p + 1) = r := by
  have hlt : p < s.data.toList.length := by
    rcases Nat.lt_or_ge p s.data.toList.length with h1 | h1
    · exact h1
    · rw [List.drop_of_length_le h1] at h; cases h
  rw [List.drop_eq_getElem_cons hlt] at h
  injection h with h1 h2
  have e : s.data.toList.length = s.size := rfl
  refine ⟨by omega, ?_, h2⟩
  have := bt_at s (p : Int) (by simpa using hlt)
  rw [← this, ← h1]
  rfl
theorem end_of {s : ByteArray} {p : Nat} (h : s.data.toList.drop p = []) : ¬ (p : Int) < s.size := by
  have := congrArg List.length h
  rw [List.length_drop, List.length_nil] at this
  have e : s.data.toList.length = s.size := rfl
  omega
theorem drop_add {L : List UInt8} {p : Nat} {c : UInt8} {r : List UInt8} (h : L.drop p = c :: r) (m : Nat) : L.drop (p + m) = (c :: r).drop m := by rw [← h, List.drop_drop]

/-! ### lines -/
theorem nls_take_succ {s : ByteArray} {i : Nat} {c : UInt8} {r : List UInt8} (h : s.data.toList.drop i = c :: r) : nls (s.data.toList.take (i + 1)) = nls (s.data.toList.take i) + (if c = 10 then 1 else 0) := by
  have h1 : s.data.toList[i]? = some c := by
    have := congrArg List.head? h
    rw [List.head?_drop] at this
    exact this
  rw [List.take_add_one, h1, nls_app]
  by_cases h2 : c = 10
  · subst h2; rfl
  · rw [if_neg h2]
    have : nls [c] = 0 := by
      unfold nls
      rw [List.count_eq_zero]
      intro hm
      exact h2 (List.mem_singleton.1 hm).symm
    show _ + nls [c] = _
    rw [this]
theorem nls_le (L : List UInt8) (i : Nat) : nls (L.take i) ≤ L.length := by
  have : nls (L.take i) ≤ (L.take i).length := List.count_le_length
  rw [List.length_take] at this
  omega

theorem line_ev (s : ByteArray) (a : Int) (hs : s.size ≤ 1000000) : ∀ d i, s.size - i = d → i ≤ s.size → ((i : Int) ≤ a ∨ i = 0) →
    Ev (fun k => ploverref02_Line.l0 k s a ((1 + nls (s.data.toList.take i) : Nat) : Int) i) (lineL s.data.toList a) := by
  have eL : s.data.toList.length = s.size := rfl
  intro d
  induction d with
  | zero =>
    intro i hd hi ha
    obtain rfl : i = s.size := by omega
    have htk : s.data.toList.take s.size = s.data.toList := List.take_of_length_le (Nat.le_refl _)
    by_cases hlt : (s.size : Int) < a
    · refine Ev.step (f := fun k => ploverref02_Line.j1 k s a ((1 + nls (s.data.toList.take s.size) : Nat) : Int) s.size (decide ((s.size : Int) < (s.size : Int)))) (fun k => by simp only [ploverref02_Line.l0]; rw [if_pos hlt]) ?_
      refine Ev.step (f := fun k => some ((1 + nls (s.data.toList.take s.size) : Nat) : Int)) (fun k => by simp only [ploverref02_Line.j1]; rw [if_neg (by simp)]) ?_
      rw [lineL, List.take_of_length_le (show s.data.toList.length ≤ a.toNat by omega), htk, show ((1 + nls s.data.toList : Nat) : Int) = 1 + ((nls s.data.toList : Nat) : Int) by omega]
      exact Ev.now _
    · refine Ev.step (f := fun k => ploverref02_Line.j1 k s a ((1 + nls (s.data.toList.take s.size) : Nat) : Int) s.size false) (fun k => by simp only [ploverref02_Line.l0]; rw [if_neg hlt]) ?_
      refine Ev.step (f := fun k => some ((1 + nls (s.data.toList.take s.size) : Nat) : Int)) (fun k => by simp only [ploverref02_Line.j1]; rw [if_neg (by simp)]) ?_
      rw [lineL, show a.toNat = s.size by omega, show ((1 + nls (s.data.toList.take s.size) : Nat) : Int) = 1 + ((nls (s.data.toList.take s.size) : Nat) : Int) by omega]
      exact Ev.now _
  | succ d ih =>
    intro i hd hi ha
    by_cases hlt : (i : Int) < a
    · refine Ev.step (f := fun k => ploverref02_Line.j1 k s a ((1 + nls (s.data.toList.take i) : Nat) : Int) i (decide ((i : Int) < (s.size : Int)))) (fun k => by simp only [ploverref02_Line.l0]; rw [if_pos hlt]) ?_
      cases hR : s.data.toList.drop i with
      | nil =>
        have := congrArg List.length hR
        rw [List.length_drop, List.length_nil] at this
        omega
      | cons c r =>
        obtain ⟨h1, h2, h3⟩ := bt_of hR
        have hn := nls_le s.data.toList i
        have ih' := ih (i + 1) (by omega) (by omega) (.inl (by omega))
        rw [nls_take_succ hR] at ih'
        rw [show (((i + 1 : Nat)) : Int) = (i : Int) + 1 by omega] at ih'
        by_cases h10 : c = 10
        · refine Ev.step (f := fun k => ploverref02_Line.l0 k s a (wrap64 (((1 + nls (s.data.toList.take i) : Nat) : Int) + 1)) (wrap64 ((i : Int) + 1))) (fun k => by
            simp only [ploverref02_Line.j1]
            rw [if_pos (decide_eq_true h1), if_pos (by omega), if_pos h1, h2, if_pos (by rw [h10]; rfl)]) ?_
          rw [wr (by omega) (by omega), wr (by omega) (by omega)]
          rw [if_pos h10, show ((1 + (nls (s.data.toList.take i) + 1) : Nat) : Int) = ((1 + nls (s.data.toList.take i) : Nat) : Int) + 1 by omega] at ih'
          exact ih'
        · refine Ev.step (f := fun k => ploverref02_Line.l0 k s a (((1 + nls (s.data.toList.take i) : Nat) : Int)) (wrap64 ((i : Int) + 1))) (fun k => by
            simp only [ploverref02_Line.j1]
            rw [if_pos (decide_eq_true h1), if_pos (by omega), if_pos h1, h2, if_neg (fun e => h10 (by
              have : c.toNat = 10 := by omega
              exact UInt8.toNat_inj.1 this))]) ?_
          rw [wr (by omega) (by omega)]
          rw [if_neg h10, Nat.add_zero] at ih'
          exact ih'
    · refine Ev.step (f := fun k => ploverref02_Line.j1 k s a ((1 + nls (s.data.toList.take i) : Nat) : Int) i false) (fun k => by simp only [ploverref02_Line.l0]; rw [if_neg hlt]) ?_
      refine Ev.step (f := fun k => some ((1 + nls (s.data.toList.take i) : Nat) : Int)) (fun k => by simp only [ploverref02_Line.j1]; rw [if_neg (by simp)]) ?_
      rw [lineL, show a.toNat = i by omega, show ((1 + nls (s.data.toList.take i) : Nat) : Int) = 1 + ((nls (s.data.toList.take i) : Nat) : Int) by omega]
      exact Ev.now _
theorem refLine_ev (s : ByteArray) (a : Int) (hs : s.size ≤ 1000000) : Ev (fun k => ploverref02_Line.f k s a) (lineL s.data.toList a) := line_ev s a hs s.size 0 (by omega) (Nat.zero_le _) (.inr rfl)

/-! ### what stands between -/
set_option maxRecDepth 100000 in
theorem blank_num : ∀ c : Nat, c < 256 → hasS (c : Int) 1 = (decide ((c : Int) = 32) || decide ((c : Int) = 9) || ((c : Int) == 10)) := by decide +kernel

theorem between_ev (s : ByteArray) (hs : s.size ≤ 1000000) : ∀ (n : Nat) (R : List UInt8) (p : Nat), R.length ≤ n → s.data.toList.drop p = R →
    Ev (fun k => ploverref02_between.l0 k s p) ((p + skipN false R : Nat) : Int) ∧ Ev (fun k => ploverref02_between.l1 k s p) ((p + skipN true R : Nat) : Int) := by
  have stop0 : ∀ p : Nat, s.data.toList.drop p = [] → Ev (fun k => ploverref02_between.l0 k s p) ((p + skipN false [] : Nat) : Int) ∧ Ev (fun k => ploverref02_between.l1 k s p) ((p + skipN true [] : Nat) : Int) := by
    intro p h
    have h1 := end_of h
    have a : Ev (fun k => ploverref02_between.l0 k s p) (p : Int) := Ev.step (f := fun k => some (p : Int)) (fun k => by simp only [ploverref02_between.l0]; rw [if_neg h1]) (Ev.now _)
    exact ⟨a, Ev.step (f := fun k => ploverref02_between.l0 k s p) (fun k => by simp only [ploverref02_between.l1]; rw [if_neg h1]) a⟩
  intro n
  induction n with
  | zero =>
    intro R p hn h
    obtain rfl := List.length_eq_zero_iff.1 (show R.length = 0 by omega)
    exact stop0 p h
  | succ n ih =>
    intro R p hn h
    cases R with
    | nil => exact stop0 p h
    | cons c r =>
      obtain ⟨h1, h2, h3⟩ := bt_of h
      obtain ⟨i1, i2⟩ := ih r (p + 1) (by simpa using hn) h3
      rw [show (((p + 1 : Nat)) : Int) = (p : Int) + 1 by omega] at i1 i2
      have hw : wrap64 ((p : Int) + 1) = (p : Int) + 1 := wr (by omega) (by omega)
      have hb := blank_num c.toNat c.toNat_lt
      have hc10 : ¬ c = 10 → Ev (fun k => ploverref02_between.l1 k s p) ((p + skipN true (c :: r) : Nat) : Int) := by
        intro hc
        have e : skipN true (c :: r) = skipN true r + 1 := by simp [skipN, hc]
        rw [e]
        refine Ev.step (f := fun k => ploverref02_between.l1 k s (wrap64 ((p : Int) + 1))) (fun k => by
          simp only [ploverref02_between.l1]
          rw [if_pos h1, if_pos (by omega), h2, if_neg (fun e => hc (by
            have : c.toNat = 10 := by omega
            exact UInt8.toNat_inj.1 this))]) ?_
        rw [hw, show p + (skipN true r + 1) = p + 1 + skipN true r by omega]
        exact i2
      have hl0 : Ev (fun k => ploverref02_between.l0 k s p) ((p + skipN false (c :: r) : Nat) : Int) := by
        by_cases hk : hasS (c.toNat : Int) 1 = true
        · have e : skipN false (c :: r) = skipN false r + 1 := by simp [skipN, hk]
          have hj : Ev (fun k => ploverref02_between.j1 k s p (c.toNat : Int) true) ((p + skipN false (c :: r) : Nat) : Int) := by
            rw [e]
            refine Ev.step (f := fun k => ploverref02_between.l0 k s (wrap64 ((p : Int) + 1))) (fun k => by simp only [ploverref02_between.j1]; rw [if_pos trivial]) ?_
            rw [hw, show p + (skipN false r + 1) = p + 1 + skipN false r by omega]
            exact i1
          refine Ev.step (f := fun k => ploverref02_between.j1 k s p (c.toNat : Int) true) (fun k => ?_) hj
          simp only [ploverref02_between.l0]
          rw [if_pos h1, if_pos (by omega), h2]
          rw [hk] at hb
          by_cases e1 : (c.toNat : Int) = 32
          · rw [if_pos e1]
          · rw [if_neg e1]
            by_cases e2 : (c.toNat : Int) = 9
            · rw [if_pos e2]
            · rw [if_neg e2]
              simp only [e1, e2, decide_false, Bool.false_or] at hb
              rw [← hb]
        · have hk' : hasS (c.toNat : Int) 1 = false := by simpa using hk
          rw [hk'] at hb
          have e1 : ¬ (c.toNat : Int) = 32 := fun e => by simp [e] at hb
          have e2 : ¬ (c.toNat : Int) = 9 := fun e => by simp [e] at hb
          have e3 : ((c.toNat : Int) == 10) = false := by
            cases hh : ((c.toNat : Int) == 10) with
            | false => rfl
            | true => rw [hh] at hb; simp at hb
          refine Ev.step (f := fun k => ploverref02_between.j1 k s p (c.toNat : Int) false) (fun k => by
            simp only [ploverref02_between.l0]
            rw [if_pos h1, if_pos (by omega), h2, if_neg e1, if_neg e2, e3]) ?_
          have hst : Ev (fun k => ploverref02_between.j2 k s p true) (p : Int) := Ev.step (f := fun k => some (p : Int)) (fun k => by simp only [ploverref02_between.j2]; rw [if_pos trivial]) (Ev.now _)
          by_cases h47 : c = 47
          · have h47' : (c.toNat : Int) = 47 := by rw [h47]; rfl
            cases r with
            | nil =>
              have e : skipN false [c] = 0 := by simp [skipN, hk']
              have h4 := end_of (p := p + 1) h3
              rw [show (((p + 1 : Nat)) : Int) = (p : Int) + 1 by omega] at h4
              rw [e]
              refine Ev.step (f := fun k => ploverref02_between.j2 k s p true) (fun k => by
                simp only [ploverref02_between.j1]
                rw [if_neg (by simp), if_pos h47', hw, if_pos (by omega)]) hst
            | cons d r =>
              obtain ⟨k1, k2, k3⟩ := bt_of (p := p + 1) h3
              rw [show (((p + 1 : Nat)) : Int) = (p : Int) + 1 by omega] at k1 k2
              by_cases hd : d = 47
              · have e : skipN false (c :: d :: r) = skipN true (d :: r) + 1 := by simp only [skipN]; rw [if_neg hk, if_pos ⟨h47, by rw [hd]; rfl⟩]
                have e5 : skipN true (c :: d :: r) = skipN true (d :: r) + 1 := by
                  have : ¬ c = 10 := by rw [h47]; decide
                  simp only [skipN]; rw [if_neg this]
                rw [e, ← e5]
                refine Ev.step (f := fun k => ploverref02_between.j2 k s p (((d.toNat : Int)) != 47)) (fun k => by
                  simp only [ploverref02_between.j1]
                  rw [if_neg (by simp), if_pos h47', hw, if_neg (by omega), if_pos (by omega), if_pos k1, k2]) ?_
                refine Ev.step (f := fun k => ploverref02_between.l1 k s p) (fun k => by
                  simp only [ploverref02_between.j2]
                  rw [if_neg (by rw [hd]; decide)]) ?_
                exact hc10 (by rw [h47]; decide)
              · have e : skipN false (c :: d :: r) = 0 := by
                  have : ¬ (c = 47 ∧ (d :: r).head? = some 47) := fun ⟨_, h⟩ => hd (by simpa using h)
                  simp only [skipN]; rw [if_neg hk, if_neg this]
                rw [e]
                refine Ev.step (f := fun k => ploverref02_between.j2 k s p (((d.toNat : Int)) != 47)) (fun k => by
                  simp only [ploverref02_between.j1]
                  rw [if_neg (by simp), if_pos h47', hw, if_neg (by omega), if_pos (by omega), if_pos k1, k2]) ?_
                have : (((d.toNat : Int)) != 47) = true := by
                  rw [bne_iff_ne]
                  intro e
                  exact hd (UInt8.toNat_inj.1 (show d.toNat = 47 by omega))
                rw [this]
                exact hst
          · have e : skipN false (c :: r) = 0 := by
              have : ¬ (c = 47 ∧ r.head? = some 47) := fun ⟨h, _⟩ => h47 h
              simp only [skipN]; rw [if_neg hk, if_neg this]
            rw [e]
            refine Ev.step (f := fun k => ploverref02_between.j2 k s p true) (fun k => by
              simp only [ploverref02_between.j1]
              rw [if_neg (by simp), if_neg (fun e => h47 (UInt8.toNat_inj.1 (show c.toNat = 47 by omega)))]) hst
      refine ⟨hl0, ?_⟩
      by_cases hc : c = 10
      · have e : skipN true (c :: r) = skipN false (c :: r) := by
          subst hc
          have : hasS (((10 : UInt8).toNat : Nat) : Int) 1 = true := hasS_10
          simp [skipN, hasS_10]
        rw [e]
        refine Ev.step (f := fun k => ploverref02_between.l0 k s p) (fun k => by
          simp only [ploverref02_between.l1]
          rw [if_pos h1, if_pos (by omega), h2, if_pos (by rw [hc]; rfl)]) hl0
      · exact hc10 hc
theorem refBetween_ev (s : ByteArray) (hs : s.size ≤ 1000000) (p : Nat) : Ev (fun k => ploverref02_between.f k s p) ((p + skipN false (s.data.toList.drop p) : Nat) : Int) :=
  (between_ev s hs _ _ p (Nat.le_refl _) rfl).1

/-! ### numbers -/
def hexV (c : Nat) : Int := if 48 ≤ c ∧ c ≤ 57 then (c : Int) - 48 else if 97 ≤ c ∧ c ≤ 102 then (c : Int) - 87 else if 65 ≤ c ∧ c ≤ 70 then (c : Int) - 55 else -1
set_option maxRecDepth 100000 in
theorem hex_all : ∀ c : Nat, c < 256 → ploverref02_hex.f 1 (c : Int) = some (hexV c) := by decide +kernel
set_option maxRecDepth 100000 in
theorem hexV_all : ∀ c : Nat, c < 256 → stopB 10 c = (decide (hexV c < 0) || decide (hexV c ≥ 10)) ∧ stopB 16 c = (decide (hexV c < 0) || decide (hexV c ≥ 16)) ∧ (0 ≤ hexV c → hexV c = (dv c : Int) ∧ hexV c < 16) := by decide +kernel
theorem hex_ev (c : UInt8) : Ev (fun k => ploverref02_hex.f k (c.toNat : Int)) (hexV c.toNat) := Ev.of (fun k => ploverref02_hex.mono _ k) (hex_all c.toNat c.toNat_lt)

/-- The value, no further than 2^40. -/
def capN (n : Nat) : Nat := min n 1099511627776
theorem capN_step (b n d : Nat) (hb : 1 ≤ b) : capN (capN n * b + d) = capN (n * b + d) := by
  unfold capN
  rcases Nat.le_total n 1099511627776 with h | h
  · rw [Nat.min_eq_left h]
  · rw [Nat.min_eq_right h]
    have h1 : 1099511627776 * b ≥ 1099511627776 * 1 := Nat.mul_le_mul (Nat.le_refl _) hb
    have h2 : n * b ≥ n * 1 := Nat.mul_le_mul (Nat.le_refl _) hb
    rw [Nat.min_eq_right (by omega), Nat.min_eq_right (by omega)]
theorem mn_cap (x : Nat) : mn (x : Int) 1099511627776 = ((capN x : Nat) : Int) := by unfold mn capN; split <;> omega

theorem number_ev (s : ByteArray) (hs : s.size ≤ 1000000) (b : Nat) (hb : b = 10 ∨ b = 16) : ∀ (n : Nat) (R : List UInt8) (p acc : Nat), R.length ≤ n → s.data.toList.drop p = R →
    Ev (fun k => ploverref02_number.l0 k s p b ((capN acc : Nat) : Int)) (((capN (valN b acc (R.take (digN b R))) : Nat) : Int), ((p + digN b R : Nat) : Int)) := by
  have hcap : ∀ x, capN x ≤ 1099511627776 := fun x => by unfold capN; omega
  have hst : ∀ p acc : Nat, s.data.toList.drop p = [] → Ev (fun k => ploverref02_number.l0 k s p b ((capN acc : Nat) : Int)) (((capN acc : Nat) : Int), (p : Int)) := by
    intro p acc h
    exact Ev.step (f := fun k => some (((capN acc : Nat) : Int), (p : Int))) (fun k => by simp only [ploverref02_number.l0]; rw [if_neg (end_of h)]) (Ev.now _)
  intro n
  induction n with
  | zero =>
    intro R p acc hn h
    obtain rfl := List.length_eq_zero_iff.1 (show R.length = 0 by omega)
    exact hst p acc h
  | succ n ih =>
    intro R p acc hn h
    cases R with
    | nil => exact hst p acc h
    | cons c r =>
      obtain ⟨h1, h2, h3⟩ := bt_of h
      obtain ⟨v1, v2, v3⟩ := hexV_all c.toNat c.toNat_lt
      have hsb : stopB (b : Int) c.toNat = (decide (hexV c.toNat < 0) || decide (hexV c.toNat ≥ (b : Int))) := by
        rcases hb with rfl | rfl
        · exact v1
        · exact v2
      have hc := hcap acc
      cases hst2 : stopB (b : Int) c.toNat with
      | true =>
        have e : digN b (c :: r) = 0 := by
          unfold digN
          rw [List.takeWhile_cons, hst2]; rfl
        rw [e, List.take_zero, Nat.add_zero]
        refine Ev.step (f := fun k => (ploverref02_hex.f k (c.toNat : Int)).bind fun t112 => (if t112 < 0 then (some (((capN acc : Nat) : Int), (p : Int))) else (if t112 ≥ (b : Int) then (some (((capN acc : Nat) : Int), (p : Int))) else (ploverref02_number.l0 k s (wrap64 ((p : Int) + 1)) b (mn (wrap64 ((wrap64 (((capN acc : Nat) : Int) * b)) + t112)) 1099511627776))))) (fun k => by
          simp only [ploverref02_number.l0]
          rw [if_pos h1, if_pos (by omega), h2]) ?_
        refine Ev.bind (f := fun k t112 => (if t112 < 0 then (some (((capN acc : Nat) : Int), (p : Int))) else (if t112 ≥ (b : Int) then (some (((capN acc : Nat) : Int), (p : Int))) else (ploverref02_number.l0 k s (wrap64 ((p : Int) + 1)) b (mn (wrap64 ((wrap64 (((capN acc : Nat) : Int) * b)) + t112)) 1099511627776))))) (hex_ev c) ?_
        rw [hst2] at hsb
        by_cases hneg : hexV c.toNat < 0
        · exact Ev.congr (fun k => by rw [if_pos hneg]; rfl) (Ev.now _)
        · have : hexV c.toNat ≥ (b : Int) := by simpa [hneg] using hsb.symm
          exact Ev.congr (fun k => by rw [if_neg hneg, if_pos this]; rfl) (Ev.now _)
      | false =>
        rw [hst2] at hsb
        have hneg : ¬ hexV c.toNat < 0 := fun h => by simp [h] at hsb
        have hge : ¬ hexV c.toNat ≥ (b : Int) := fun h => by simp [h] at hsb
        obtain ⟨v4, v5⟩ := v3 (by omega)
        have e : digN b (c :: r) = digN b r + 1 := by
          unfold digN
          rw [List.takeWhile_cons, hst2]; rfl
        have hv : valN b acc ((c :: r).take (digN b r + 1)) = valN b (acc * b + dv c.toNat) (r.take (digN b r)) := by
          rw [List.take_succ_cons]; rfl
        have ih' := ih r (p + 1) (acc * b + dv c.toNat) (by simpa using hn) h3
        rw [show (((p + 1 : Nat)) : Int) = (p : Int) + 1 by omega] at ih'
        rw [e, hv, show p + (digN b r + 1) = p + 1 + digN b r by omega]
        refine Ev.step (f := fun k => (ploverref02_hex.f k (c.toNat : Int)).bind fun t112 => (if t112 < 0 then (some (((capN acc : Nat) : Int), (p : Int))) else (if t112 ≥ (b : Int) then (some (((capN acc : Nat) : Int), (p : Int))) else (ploverref02_number.l0 k s (wrap64 ((p : Int) + 1)) b (mn (wrap64 ((wrap64 (((capN acc : Nat) : Int) * b)) + t112)) 1099511627776))))) (fun k => by
          simp only [ploverref02_number.l0]
          rw [if_pos h1, if_pos (by omega), h2]) ?_
        refine Ev.bind (f := fun k t112 => (if t112 < 0 then (some (((capN acc : Nat) : Int), (p : Int))) else (if t112 ≥ (b : Int) then (some (((capN acc : Nat) : Int), (p : Int))) else (ploverref02_number.l0 k s (wrap64 ((p : Int) + 1)) b (mn (wrap64 ((wrap64 (((capN acc : Nat) : Int) * b)) + t112)) 1099511627776))))) (hex_ev c) ?_
        have hmul : capN acc * b ≤ 1099511627776 * 16 := Nat.mul_le_mul hc (by rcases hb with rfl | rfl <;> omega)
        have hcast : ((capN acc : Nat) : Int) * (b : Int) = ((capN acc * b : Nat) : Int) := by rw [Int.natCast_mul]
        refine Ev.congr (f := fun k => ploverref02_number.l0 k s ((p : Int) + 1) b ((capN (acc * b + dv c.toNat) : Nat) : Int)) (fun k => ?_) ih'
        rw [if_neg hneg, if_neg hge, wr (by omega) (by omega), v4, hcast, wr (i := ((capN acc * b : Nat) : Int)) (by omega) (by omega), wr (by omega) (by omega)]
        rw [show ((capN acc * b : Nat) : Int) + (dv c.toNat : Int) = ((capN acc * b + dv c.toNat : Nat) : Int) by omega, mn_cap, capN_step b acc _ (by rcases hb with rfl | rfl <;> omega)]
theorem refNumber_ev (s : ByteArray) (hs : s.size ≤ 1000000) (b : Nat) (hb : b = 10 ∨ b = 16) (p : Nat) :
    Ev (fun k => ploverref02_number.f k s p b) (((capN (valN b 0 ((s.data.toList.drop p).take (digN b (s.data.toList.drop p)))) : Nat) : Int), ((p + digN b (s.data.toList.drop p) : Nat) : Int)) :=
  number_ev s hs b hb _ _ p 0 (Nat.le_refl _) rfl
end Go.Proofs.YtdlfjokhgmngcaaGreatDoor.Lx
