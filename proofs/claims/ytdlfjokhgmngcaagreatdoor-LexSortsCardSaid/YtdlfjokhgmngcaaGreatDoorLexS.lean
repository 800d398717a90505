/- The iterator over the tokens, walked: it yields the Lean function's tokens. -/
import Derived.Test.YtdlfjokhgmngcaaGreatDoorLexR
import Derived.Stop.RegionWithIn
namespace Go.Proofs.YtdlfjokhgmngcaaGreatDoor.Lx
open Go.RowKit Go.Shelf Go.Proofs.YtdlfjokhgmngcaaGreatDoorW.PrintWords
set_option linter.unusedVariables false
set_option linter.unusedSimpArgs false
attribute [local go_sem] Oper.semAt_some

theorem Fr.two_new {b g : Nat} {w w1 w2 : World} (h : Fr b w w1) (k : Fr2 b g w1 w2) (hg : w.heap.size ≤ g) : Fr b w w2 :=
  ⟨⟨k.os.trans h.out.os, k.tape.trans h.out.tape, k.output.trans h.out.output, Nat.le_trans h.out.size k.size,
    fun i hi hne => (k.block i (Nat.lt_of_lt_of_le hi h.out.size) (fun e => hne (by rw [e])) (by omega)).trans (h.out.block i hi hne)⟩⟩

theorem is_val (b : Nat) (ini : Bool) (tl : List Value) (c m : Int) (v : Bool) (hv : hasS c m = v) (w : World) (hb : LexB w b ini tl) (hc0 : 0 ≤ c) (hc : c < 256) :
    Calls Tryz.prog 38 #[.pointer (some ⟨b, 0, none⟩), .int .u8 c, .int .u8 m] w fun e w' => e = .returned (.bool v) ∧ LexB w' b true tl ∧ Fr b w w' := hv ▸ is_any b ini tl c m w hb hc0 hc

/-- Behind the iterator. -/
def Ended (b : Nat) (s : ByteArray) (J : List Tok → World → Prop) (W' : World) : Prop :=
  J (lexL s.data.toList).1 W' ∧ ∃ i2 p' l' v, LX W' b i2 s p' l' v ∧ (match (lexL s.data.toList).2 with
    | none => v = .nilIface
    | some (c, pl) => FaultAt W' v c pl)

/-- What holds at the loop's head. -/
structure Head (s : ByteArray) (b pb : Nat) (J : List Tok → World → Prop) (gk : Nat) (pre : List Tok) (p l : Nat) (i2 : Bool) (w' : World) : Prop where
  j : J pre w'
  lx : LX w' b i2 s p l .nilIface
  ini : p < s.size → i2 = true
  box : w'.heap[pb]? = some (.cells #[.pointer (some ⟨b, 0, none⟩)] 57 (0, 0))
  laid : Laid w'
  len : pre.length ≤ p
  line : l ≤ p + 1
  le : p ≤ s.size
  fuel : s.size - p < gk
  all : lexL s.data.toList = (pre ++ (lexG gk (s.data.toList.drop p) p l).1, (lexG gk (s.data.toList.drop p) p l).2)

theorem extract_arr (s : ByteArray) (p m : Nat) : s.extract p (p + m) = ⟨((s.data.toList.drop p).take m).toArray⟩ := by
  apply ByteArray.ext
  apply Array.toList_inj.1
  rw [extract_take]
theorem val_lt (c : UInt8) : c.toNat < 256 := c.toNat_lt

theorem has26 : ∀ c : Nat, c < 256 → hasS (c : Int) 2 = true → hasS (c : Int) 6 = true := by decide +kernel
theorem whileN_pos {c : UInt8} {r : List UInt8} (h : hasS (c.toNat : Int) 2 = true) : 1 ≤ whileN 6 (c :: r) := by
  have h6 := has26 _ c.toNat_lt h
  rw [whileN, List.takeWhile_cons, if_pos h6, List.length_cons]
  omega
theorem markN_le (c : UInt8) (r : List UInt8) : markN (c :: r) ≤ (c :: r).length := by
  unfold markN
  split
  · rename_i h
    obtain ⟨m, hm, hp⟩ := List.any_eq_true.1 h
    have h3 := (List.isPrefixOf_iff_prefix.1 hp).length_le
    have h4 : m.length = 2 := by
      revert hm; clear hp h3 h; revert m; decide
    omega
  · simp
theorem markN_pos (l : List UInt8) : 1 ≤ markN l := by unfold markN; split <;> omega

set_option maxHeartbeats 6400000 in
set_option maxRecDepth 100000 in
theorem tokens1_any (l b pb N : Nat) (J : List Tok → World → Prop) (hR : Rounds l b pb N J) (s : ByteArray) (w : World) (hb : LX w b false s 0 1 .nilIface) (hp : w.heap[pb]? = some (.cells #[.pointer (some ⟨b, 0, none⟩)] 57 (0, 0)))
    (hL : Laid w) (hs : s.size ≤ 20000) (hN : s.size < N) (hpb : pb ≠ b) (hlow : 8 < b ∧ 8 < pb) (h0 : J [] w) :
    Calls Tryz.prog 36 #[.func (.yield l) #[] #[], .pointer (some ⟨pb, 0, none⟩)] w fun e w' => e = .returned (.tuple #[]) ∧ Ended b s J w' := by
  have hbl := blk_lt hb
  have hpl := blk_lt hp
  have HB := Aside0.mk hb
  have HP := Aside0.mk hp
  have HL := Aside0.mk hL
  have HJ := Aside0.mk h0
  have HR := Aside0.mk hR
  have cp : w.cell? ⟨pb, 0, none⟩ = some (.pointer (some ⟨b, 0, none⟩)) := blk_cell hp 0
  clear hb hp hL h0 hR
  go_enter Tryz.func36, Tryz.ntmps36
  go_wp2_with fail
  refine (skip_any b false s 0 1 .nilIface w HB.out (by omega) hs (by omega)).mono ?_
  rintro e w1 ⟨rfl, j, i2, hj, hLX, hini, hF⟩
  have HH := Aside0.mk (show Head s b pb J (s.size + 1) [] j (1 + nls (s.data.toList.take j)) i2 w1 from by
    have hjl : j ≤ s.size := by rw [hj]; exact Nat.le_trans (skipN_le _ _) (by simp)
    refine ⟨HR.out.step _ _ _ HJ.out hF, by simpa using hLX, by simpa using hini, hF.blk HP.out hpb, HL.out.keep (hF.out.block _ (by omega) (fun e => by have := Option.some.inj e; omega)) (hF.out.block _ (by omega) (fun e => by have := Option.some.inj e; omega)), Nat.zero_le _, ?_, hjl, by omega, ?_⟩
    · have : nls (s.data.toList.take j) ≤ j := Nat.le_trans List.count_le_length (List.length_take_le _ _)
      omega
    · rw [List.drop_zero] at hj
      rw [lexL, ← hj]
      simp)
  clear hj hLX hini hF HB HP HL HJ cp
  go_wp2
  go_loopg [] (s.size + 1) (fun gk w' => ∃ pre p l i2, Aside0 (Head s b pb J gk pre p l i2 w'))
  case atStart => exact ⟨[], _, _, _, HH⟩
  case round =>
    clear HH
    obtain ⟨pre, p, l2, i3, HH⟩ := hrel
    have hle := HH.out.le
    have hline := HH.out.line
    have cp : wr.cell? ⟨pb, 0, none⟩ = some (.pointer (some ⟨b, 0, none⟩)) := blk_cell HH.out.box 0
    have c0 : wr.cell? ⟨b, 259, none⟩ = some (.string s) := lx_at HH.out.lx 0
    have c1 : wr.cell? ⟨b, 260, none⟩ = some (.int .i64 p) := lx_at HH.out.lx 1
    have c2 : wr.cell? ⟨b, 261, none⟩ = some (.int .i64 l2) := lx_at HH.out.lx 2
    by_cases hlt : p < s.size
    · have hdec : decide (p < s.size) = true := decide_eq_true hlt
      go_wp2
      go_quiet (fail)
      have HX1 := Aside0.mk (show LX (wr.drewN nq) b i3 s p l2 .nilIface from HH.out.lx)
      have HJ1 := Aside0.mk (HR.out.step _ _ _ HH.out.j ((Fr.refl b wr).drewN nq))
      have HF1 := Aside0.mk ((Fr.refl b wr).drewN nq)
      have HBx1 := Aside0.mk (show (wr.drewN nq).heap[pb]? = some (.cells #[.pointer (some ⟨b, 0, none⟩)] 57 (0, 0)) from HH.out.box)
      clear cp c0 c1 c2
      have hb1 := blk_lt HX1.out
      have hp1 := blk_lt HBx1.out
      generalize wr.drewN nq = W1 at *
      have cp : W1.cell? ⟨pb, 0, none⟩ = some (.pointer (some ⟨b, 0, none⟩)) := blk_cell HBx1.out 0
      have c1 : W1.cell? ⟨b, 260, none⟩ = some (.int .i64 p) := lx_at HX1.out 1
      have c2 : W1.cell? ⟨b, 261, none⟩ = some (.int .i64 l2) := lx_at HX1.out 2
      have HG0 := Aside0.mk (blk_drew (blk_new W1 (.cells #[.int .i64 0, .int .i64 p, .int .i64 l2, .string ⟨#[]⟩, .int .i64 0] 31)))
      have HX2 := Aside0.mk (show LX (W1.alloc (.cells #[.int .i64 0, .int .i64 p, .int .i64 l2, .string ⟨#[]⟩, .int .i64 0] 31)).drew b true s p l2 .nilIface from by have := HX1.out; rw [HH.out.ini hlt] at this; exact lx_drew (lx_alloc this _))
      have HF2 := Aside0.mk ((((Fr.refl b W1).alloc (.cells #[.int .i64 0, .int .i64 p, .int .i64 l2, .string ⟨#[]⟩, .int .i64 0] 31)).drew))
      have HBx2 := Aside0.mk (blk_drew (blk_alloc HBx1.out (.cells #[.int .i64 0, .int .i64 p, .int .i64 l2, .string ⟨#[]⟩, .int .i64 0] 31)))
      go_wp2
      go_region
      go_goals
      have hg2 : W1.heap.size < (W1.alloc (.cells #[.int .i64 0, .int .i64 p, .int .i64 l2, .string ⟨#[]⟩, .int .i64 0] 31)).drew.heap.size := blk_lt HG0.out
      have hgb : W1.heap.size ≠ b := by omega
      have hgp : W1.heap.size ≠ pb := by omega
      have hg9 : 8 < W1.heap.size := by omega
      generalize (W1.alloc (.cells #[.int .i64 0, .int .i64 p, .int .i64 l2, .string ⟨#[]⟩, .int .i64 0] 31)).drew = W2 at *
      obtain ⟨g, hg⟩ : ∃ g, W1.heap.size = g := ⟨_, rfl⟩
      rw [hg] at hgb hgp hg9 HG0 hg2 ⊢
      clear cp c1 c2
      have cp : W2.cell? ⟨pb, 0, none⟩ = some (.pointer (some ⟨b, 0, none⟩)) := blk_cell HBx2.out 0
      have c0 : W2.cell? ⟨b, 259, none⟩ = some (.string s) := lx_at HX2.out 0
      have c1 : W2.cell? ⟨b, 260, none⟩ = some (.int .i64 p) := lx_at HX2.out 1
      obtain ⟨c, hc⟩ : ∃ c : Nat, (s[p]).toNat = c := ⟨_, rfl⟩
      have hidx : ∀ h : p < s.size, (s[p]'h).toNat = c := fun _ => hc
      go_wp2
      go_quiet (fail)
      go_goals
      have HX3 := Aside0.mk (lx_drewN HX2.out nq)
      have HF3 := Aside0.mk (HF2.out.drewN nq)
      have HG3 := Aside0.mk (show TokB (W2.drewN nq) g 0 p l2 ⟨#[]⟩ 0 from HG0.out)
      have HBx3 := Aside0.mk (show (W2.drewN nq).heap[pb]? = some (.cells #[.pointer (some ⟨b, 0, none⟩)] 57 (0, 0)) from HBx2.out)
      have HF03 := Aside0.mk (HF1.out.trans HF3.out)
      have hb3 := blk_lt HX3.out
      have hg3 := blk_lt HG3.out
      have hp3 := blk_lt HBx3.out
      have HL3 := Aside0.mk (HH.out.laid.keep (HF03.out.out.block _ (by have := blk_lt HH.out.lx; omega) (fun e => by have := Option.some.inj e; omega)) (HF03.out.out.block _ (by have := blk_lt HH.out.lx; omega) (fun e => by have := Option.some.inj e; omega)))
      clear cp c0 c1 HX1 HX2 HF2 HF1 HF03 HBx1 HBx2 HG0 hb1 hp1
      have hgW1 : W1.heap.size ≤ g := by omega
      generalize W2.drewN nq = W3 at *
      have cp : W3.cell? ⟨pb, 0, none⟩ = some (.pointer (some ⟨b, 0, none⟩)) := blk_cell HBx3.out 0
      have hc256 : c < 256 := by rw [← hc]; exact (s[p]).toNat_lt
      have HC := Aside0.mk hc
      clear hc hidx hg
      have hR0 : s.data.toList.drop p = s[p] :: s.data.toList.drop (p + 1) := drop_cons_at s p hlt
      have hbW := hb3
      have hgW := hg3
      have hpW := hp3
      have HX := HX3
      have HG := HG3
      have HBx := HBx3
      have HF := HF3
      have HL := HL3
      clear HX3 HG3 HBx3 HF3 HL3 hb3 hg3 hp3 hg2
      cases h2 : hasS (c : Int) 2 with
      | true =>
        have HO := Aside0.mk (show oneL (s.data.toList.drop p) = if 16 < whileN 6 (s.data.toList.drop p) then .bad 4 0 else .tok 1 (whileN 6 (s.data.toList.drop p)) 0 from by rw [hR0, oneL]; simp only [HC.out, h2, if_true])
        go_wp2_with fail
        refine (is_val b true _ c 2 _ h2 _ HX.out (by omega) (by omega)).mono ?_
        rintro e W' ⟨rfl, h1, f1⟩
        replace HX := Aside0.mk (show LX W' b true s p l2 .nilIface from h1)
        replace HF := Aside0.mk (HF.out.trans f1)
        replace HG := Aside0.mk (show TokB W' g 0 p l2 ⟨#[]⟩ 0 from f1.blk HG.out hgb)
        replace HBx := Aside0.mk (f1.blk HBx.out hpb)
        replace HL := Aside0.mk (HL.out.keep (f1.out.block _ (by omega) (fun e => by have := Option.some.inj e; omega)) (f1.out.block _ (by omega) (fun e => by have := Option.some.inj e; omega)))
        have hbW := blk_lt HX.out
        have hgW := blk_lt HG.out
        have hpW := blk_lt HBx.out
        have cp : W'.cell? ⟨pb, 0, none⟩ = some (.pointer (some ⟨b, 0, none⟩)) := blk_cell HBx.out 0
        clear h1 f1
        obtain ⟨m, hm⟩ : ∃ m, whileN 6 (s.data.toList.drop p) = m := ⟨_, rfl⟩
        rw [hm] at HO
        by_cases hlen : 16 < m
        · have HOne := Aside0.mk (HO.out.trans (if_pos hlen))
          have HBad := Aside0.mk (show Calls Tryz.prog 39 #[.pointer (some ⟨b, 0, none⟩), .pointer (some ⟨g, 0, none⟩)] W' (NumBad b g s 4 ((p + 0 : Nat) : Int) W') from (name_long b g s p l2 .nilIface 0 p l2 0 ⟨#[]⟩ W' HX.out HG.out hle hs (by rw [hm]; exact hlen)).mono fun e w' ⟨h1, h2, v, h3, h4, _⟩ => ⟨h1, h2.two g, v, _, _, h3, h4⟩)
          clear HO hm
          go_wp2_with fail
          refine HBad.out.mono ?_
          rintro e W' ⟨rfl, f2, v, p5, l5, ⟨g3, rfl, hv⟩, hx5⟩
          replace HX := Aside0.mk hx5
          have HFt := Aside0.mk hv
          replace HJ1 := Aside0.mk (HR.out.step _ _ _ HJ1.out (Fr.two_new HF.out f2 hgW1))
          have HBx5 := Aside0.mk ((f2.block pb hpW hpb (Ne.symm hgp)).trans HBx.out)
          have cp : W'.cell? ⟨pb, 0, none⟩ = some (.pointer (some ⟨b, 0, none⟩)) := blk_cell HBx5.out 0
          have c3 : W'.cell? ⟨b, 262, none⟩ = some (.iface 56 (.pointer (some ⟨g3, 0, none⟩))) := lx_at HX.out 3
          clear f2 hv hx5
          go_wp2
          refine bodyPost_ret (results_none rfl _ _ _) rfl ?_
          obtain ⟨f, rfl⟩ : ∃ f, gk = f + 1 := ⟨gk - 1, by have := HH.out.fuel; omega⟩
          have hall := HH.out.all
          rw [lexG_bad (by rw [hR0]; exact List.cons_ne_nil _ _) HOne.out] at hall
          refine ⟨rfl, ?_, true, p5, l5, _, HX.out, ?_⟩
          · rw [hall, List.append_nil]
            exact HJ1.out
          · rw [hall]
            exact ⟨g3, rfl, HFt.out⟩
        · have HOne := Aside0.mk (HO.out.trans (if_neg hlen))
          have HM := Aside0.mk (show m ≤ (s.data.toList.drop p).length by rw [← hm]; exact List.Sublist.length_le (List.takeWhile_sublist _))
          have HM1 := Aside0.mk (show 1 ≤ m by rw [← hm, hR0]; exact whileN_pos (by rw [HC.out]; exact h2))
          have HTok := Aside0.mk (name_ok b g s p l2 m .nilIface 0 p l2 0 ⟨#[]⟩ W' HX.out HG.out hgb hle hs hline hm (by omega))
          clear HO hm
          go_wp2_with fail
          refine HTok.out.mono ?_
          rintro e W' ⟨rfl, f2, hx, hg⟩
          replace HJ1 := Aside0.mk (HR.out.step _ _ _ HJ1.out (Fr.two_new HF.out f2 hgW1))
          replace HBx := Aside0.mk ((f2.block pb hpW hpb (Ne.symm hgp)).trans HBx.out)
          replace HL := Aside0.mk (HL.out.keep (f2.block _ (by omega) (by omega) (by omega)) (f2.block _ (by omega) (by omega) (by omega)))
          replace HX := Aside0.mk hx
          replace HG := Aside0.mk hg
          have cp : W'.cell? ⟨pb, 0, none⟩ = some (.pointer (some ⟨b, 0, none⟩)) := blk_cell HBx.out 0
          have c3 : W'.cell? ⟨b, 262, none⟩ = some .nilIface := lx_at HX.out 3
          have z0 := blk_cell HG.out 0
          have z1 := blk_cell HG.out 1
          have z2 := blk_cell HG.out 2
          have z3 := blk_cell HG.out 3
          have z4 := blk_cell HG.out 4
          clear f2 hx hg
          obtain ⟨fn, tmps, assign, body, hy, hRd⟩ := HR.out.round pre ⟨1, p, l2, s.extract p (p + m), 0⟩ W' HJ1.out (by have := HH.out.len; omega)
          dsimp only [Tok.val] at hy
          have HRd := Aside0.mk hRd
          clear hRd
          go_upto_region 12 with (fail)
          refine (wpIn_wide (n := 3)).1 ?_
          gi_wp2
          refine HRd.out.mono ?_
          rintro e W5 ⟨rfl, hj5, hk5⟩
          replace HJ1 := Aside0.mk hj5
          have HK5 := Aside0.mk hk5
          clear hj5 hk5 hy HRd cp c3 z0 z1 z2 z3 z4
          gi_wp2
          replace HX := Aside0.mk (show LX W5 b true s (p + m) (l2 + nls ((s.data.toList.drop p).take m)) .nilIface by
            have := HX.out
            rw [extract_take] at this
            exact (HK5.out.lx.trans this))
          replace HBx := Aside0.mk (HK5.out.box.trans HBx.out)
          replace HL := Aside0.mk (HL.out.keep HK5.out.tab HK5.out.err)
          have hbW5 := blk_lt HX.out
          have hpW5 := blk_lt HBx.out
          have cp : W5.cell? ⟨pb, 0, none⟩ = some (.pointer (some ⟨b, 0, none⟩)) := blk_cell HBx.out 0
          have hml : m ≤ (s.data.toList.drop p).length := HM.out
          have hnl : nls ((s.data.toList.drop p).take m) ≤ m := Nat.le_trans List.count_le_length (List.length_take_le _ _)
          have hpm : p + m ≤ s.size := by
            have := hml
            simp at this
            omega
          obtain ⟨l6, hl6⟩ : ∃ l6, l2 + nls ((s.data.toList.drop p).take m) = l6 := ⟨_, rfl⟩
          rw [hl6] at HX
          have HSk := Aside0.mk (skip_any b true s (p + m) l6 .nilIface W5 HX.out hpm hs (by omega))
          go_wp2_with fail
          refine HSk.out.mono ?_
          rintro e W6 ⟨rfl, j6, i6, hj6, hLX, hini, hF6⟩
          have hd6 : s.data.toList.drop (p + m) = (s.data.toList.drop p).drop m := by rw [List.drop_drop]
          have HH6 := Aside0.mk (show Head s b pb J (gk - 1) (pre ++ [⟨1, p, l2, s.extract p (p + m), 0⟩]) (p + m + j6) (l6 + nls ((s.data.toList.drop (p + m)).take j6)) i6 W6 from by
            have hjl : j6 ≤ s.size - (p + m) := by rw [hj6]; exact Nat.le_trans (skipN_le _ _) (by simp)
            obtain ⟨f, rfl⟩ : ∃ f, gk = f + 1 := ⟨gk - 1, by have := HH.out.fuel; omega⟩
            refine ⟨HR.out.step _ _ _ HJ1.out hF6, hLX, hini, hF6.blk HBx.out hpb, HL.out.keep (hF6.out.block _ (by omega) (fun e => by have := Option.some.inj e; omega)) (hF6.out.block _ (by omega) (fun e => by have := Option.some.inj e; omega)), ?_, ?_, by omega, ?_, ?_⟩
            · have := HH.out.len
              have h1 := HM1.out
              simp
              omega
            · have : nls ((s.data.toList.drop (p + m)).take j6) ≤ j6 := Nat.le_trans List.count_le_length (List.length_take_le _ _)
              omega
            · have := HH.out.fuel
              have h1 := HM1.out
              simp only [Nat.add_sub_cancel]
              omega
            · have hall := HH.out.all
              rw [lexG_tok (by rw [hR0]; exact List.cons_ne_nil _ _) HOne.out] at hall
              rw [← hd6, ← hj6, hl6, ← extract_arr, List.drop_drop] at hall
              rw [hall, List.append_assoc]
              rfl)
          clear HX HSk HJ1 HL HBx hj6 hLX hini hF6
          go_wp2
          go_roundg (gk - 1)
          case measure => have := HH.out.fuel; omega
          case rel => exact ⟨_, _, _, _, HH6⟩
      | false =>
        go_wp2_with fail
        refine (is_val b true _ c 2 _ h2 _ HX.out (by omega) (by omega)).mono ?_
        rintro e W' ⟨rfl, h1, f1⟩
        replace HX := Aside0.mk (show LX W' b true s p l2 .nilIface from h1)
        replace HF := Aside0.mk (HF.out.trans f1)
        replace HG := Aside0.mk (show TokB W' g 0 p l2 ⟨#[]⟩ 0 from f1.blk HG.out hgb)
        replace HBx := Aside0.mk (f1.blk HBx.out hpb)
        replace HL := Aside0.mk (HL.out.keep (f1.out.block _ (by omega) (fun e => by have := Option.some.inj e; omega)) (f1.out.block _ (by omega) (fun e => by have := Option.some.inj e; omega)))
        have hbW := blk_lt HX.out
        have hgW := blk_lt HG.out
        have hpW := blk_lt HBx.out
        have cp : W'.cell? ⟨pb, 0, none⟩ = some (.pointer (some ⟨b, 0, none⟩)) := blk_cell HBx.out 0
        clear h1 f1
        cases h4 : hasS (c : Int) 4 with
        | true =>
          have HO := Aside0.mk (show oneL (s.data.toList.drop p) = (if nDig (s.data.toList.drop p) = 0 then .bad 7 (nLen (s.data.toList.drop p)) else if 4294967296 ≤ nVal (s.data.toList.drop p) then .bad 10 0 else if nTail (s.data.toList.drop p) then .bad 7 (nLen (s.data.toList.drop p)) else .tok 2 (nLen (s.data.toList.drop p)) (nVal (s.data.toList.drop p))) from by
            rw [hR0, oneL]; simp only [HC.out, h2, h4, if_true, if_false, Bool.false_eq_true])
          go_wp2_with fail
          refine (is_val b true _ c 4 _ h4 _ HX.out (by omega) (by omega)).mono ?_
          rintro e W' ⟨rfl, h1, f1⟩
          replace HX := Aside0.mk (show LX W' b true s p l2 .nilIface from h1)
          replace HF := Aside0.mk (HF.out.trans f1)
          replace HG := Aside0.mk (show TokB W' g 0 p l2 ⟨#[]⟩ 0 from f1.blk HG.out hgb)
          replace HBx := Aside0.mk (f1.blk HBx.out hpb)
          replace HL := Aside0.mk (HL.out.keep (f1.out.block _ (by omega) (fun e => by have := Option.some.inj e; omega)) (f1.out.block _ (by omega) (fun e => by have := Option.some.inj e; omega)))
          have hbW := blk_lt HX.out
          have hgW := blk_lt HG.out
          have hpW := blk_lt HBx.out
          have cp : W'.cell? ⟨pb, 0, none⟩ = some (.pointer (some ⟨b, 0, none⟩)) := blk_cell HBx.out 0
          clear h1 f1
          have HNum := Aside0.mk (number_any b g s p l2 .nilIface 0 p l2 0 ⟨#[]⟩ W' HX.out HG.out hgb hlt hs hline HL.out ⟨hlow.1, hg9⟩)
          have HM := Aside0.mk (nLen_le (s.data.toList.drop p))
          obtain ⟨m, hm⟩ : ∃ m, nLen (s.data.toList.drop p) = m := ⟨_, rfl⟩
          have HM1 := Aside0.mk (show nDig (s.data.toList.drop p) ≠ 0 → 1 ≤ m by rw [← hm, nLen]; omega)
          have HNum2 := Aside0.mk (show Calls Tryz.prog 40 #[.pointer (some ⟨b, 0, none⟩), .pointer (some ⟨g, 0, none⟩)] W' (fun e w' => match oneL (s.data.toList.drop p) with
              | .bad c o => NumBad b g s c ((p + o : Nat) : Int) W' e w'
              | .tok k m n => nDig (s.data.toList.drop p) ≠ 0 ∧ k = 2 ∧ m = nLen (s.data.toList.drop p) ∧ Read b g s p l2 m .nilIface k p l2 n W' e w') from by
            refine HNum.out.mono fun e w' h => ?_
            rw [HO.out]
            unfold NumPost at h
            by_cases e1 : nDig (s.data.toList.drop p) = 0
            · rw [if_pos e1] at h ⊢; exact h
            · rw [if_neg e1] at h ⊢
              by_cases e2 : 4294967296 ≤ nVal (s.data.toList.drop p)
              · rw [if_pos e2] at h ⊢; exact h
              · rw [if_neg e2] at h ⊢
                by_cases e3 : nTail (s.data.toList.drop p) = true
                · rw [if_pos e3] at h ⊢; exact h
                · rw [if_neg e3] at h ⊢; exact ⟨e1, rfl, rfl, h⟩)
          have HK := Aside0.mk (show ∀ k m' n, oneL (s.data.toList.drop p) = .tok k m' n → nDig (s.data.toList.drop p) ≠ 0 ∧ k = 2 ∧ m' = m from by
            intro k m' n h
            rw [HO.out] at h
            by_cases e1 : nDig (s.data.toList.drop p) = 0
            · rw [if_pos e1] at h; cases h
            · rw [if_neg e1] at h
              by_cases e2 : 4294967296 ≤ nVal (s.data.toList.drop p)
              · rw [if_pos e2] at h; cases h
              · rw [if_neg e2] at h
                by_cases e3 : nTail (s.data.toList.drop p) = true
                · rw [if_pos e3] at h; cases h
                · rw [if_neg e3] at h; cases h; exact ⟨e1, rfl, hm⟩)
          clear HNum HO
          rw [hm] at HM HNum2
          cases hone : oneL (s.data.toList.drop p) with
          | bad cd o =>
            have HOne := Aside0.mk hone
            have HBad := HNum2
            rw [hone] at HBad
            clear HNum2 HM HM1 HK hone hm
            go_wp2_with fail
            refine HBad.out.mono ?_
            rintro e W' ⟨rfl, f2, v, p5, l5, ⟨g3, rfl, hv⟩, hx5⟩
            replace HX := Aside0.mk hx5
            have HFt := Aside0.mk hv
            replace HJ1 := Aside0.mk (HR.out.step _ _ _ HJ1.out (Fr.two_new HF.out f2 hgW1))
            have HBx5 := Aside0.mk ((f2.block pb hpW hpb (Ne.symm hgp)).trans HBx.out)
            have cp : W'.cell? ⟨pb, 0, none⟩ = some (.pointer (some ⟨b, 0, none⟩)) := blk_cell HBx5.out 0
            have c3 : W'.cell? ⟨b, 262, none⟩ = some (.iface 56 (.pointer (some ⟨g3, 0, none⟩))) := lx_at HX.out 3
            clear f2 hv hx5
            go_wp2
            refine bodyPost_ret (results_none rfl _ _ _) rfl ?_
            obtain ⟨f, rfl⟩ : ∃ f, gk = f + 1 := ⟨gk - 1, by have := HH.out.fuel; omega⟩
            have hall := HH.out.all
            rw [lexG_bad (by rw [hR0]; exact List.cons_ne_nil _ _) HOne.out] at hall
            refine ⟨rfl, ?_, true, p5, l5, _, HX.out, ?_⟩
            · rw [hall, List.append_nil]
              exact HJ1.out
            · rw [hall]
              exact ⟨g3, rfl, HFt.out⟩
          | tok k m' n =>
            rw [hone] at HNum2
            obtain ⟨e1, rfl, rfl⟩ := HK.out _ _ _ hone
            have HOne := Aside0.mk hone
            have HTok := Aside0.mk (show Calls Tryz.prog 40 #[.pointer (some ⟨b, 0, none⟩), .pointer (some ⟨g, 0, none⟩)] W' (Read b g s p l2 m' .nilIface 2 p l2 n W') from HNum2.out.mono fun e w' h => h.2.2.2)
            replace HM1 := Aside0.mk (HM1.out e1)
            obtain ⟨m, rfl⟩ : ∃ m, m = m' := ⟨_, rfl⟩
            clear HNum2 HK hone hm e1
            go_wp2_with fail
            refine HTok.out.mono ?_
            rintro e W' ⟨rfl, f2, hx, hg⟩
            replace HJ1 := Aside0.mk (HR.out.step _ _ _ HJ1.out (Fr.two_new HF.out f2 hgW1))
            replace HBx := Aside0.mk ((f2.block pb hpW hpb (Ne.symm hgp)).trans HBx.out)
            replace HL := Aside0.mk (HL.out.keep (f2.block _ (by omega) (by omega) (by omega)) (f2.block _ (by omega) (by omega) (by omega)))
            replace HX := Aside0.mk hx
            replace HG := Aside0.mk hg
            have cp : W'.cell? ⟨pb, 0, none⟩ = some (.pointer (some ⟨b, 0, none⟩)) := blk_cell HBx.out 0
            have c3 : W'.cell? ⟨b, 262, none⟩ = some .nilIface := lx_at HX.out 3
            have z0 := blk_cell HG.out 0
            have z1 := blk_cell HG.out 1
            have z2 := blk_cell HG.out 2
            have z3 := blk_cell HG.out 3
            have z4 := blk_cell HG.out 4
            clear f2 hx hg
            obtain ⟨fn, tmps, assign, body, hy, hRd⟩ := HR.out.round pre ⟨2, p, l2, s.extract p (p + m), n⟩ W' HJ1.out (by have := HH.out.len; omega)
            dsimp only [Tok.val] at hy
            have HRd := Aside0.mk hRd
            clear hRd
            go_upto_region 12 with (fail)
            refine (wpIn_wide (n := 3)).1 ?_
            gi_wp2
            refine HRd.out.mono ?_
            rintro e W5 ⟨rfl, hj5, hk5⟩
            replace HJ1 := Aside0.mk hj5
            have HK5 := Aside0.mk hk5
            clear hj5 hk5 hy HRd cp c3 z0 z1 z2 z3 z4
            gi_wp2
            replace HX := Aside0.mk (show LX W5 b true s (p + m) (l2 + nls ((s.data.toList.drop p).take m)) .nilIface by
              have := HX.out
              rw [extract_take] at this
              exact (HK5.out.lx.trans this))
            replace HBx := Aside0.mk (HK5.out.box.trans HBx.out)
            replace HL := Aside0.mk (HL.out.keep HK5.out.tab HK5.out.err)
            have hbW5 := blk_lt HX.out
            have hpW5 := blk_lt HBx.out
            have cp : W5.cell? ⟨pb, 0, none⟩ = some (.pointer (some ⟨b, 0, none⟩)) := blk_cell HBx.out 0
            have hml : m ≤ (s.data.toList.drop p).length := HM.out
            have hnl : nls ((s.data.toList.drop p).take m) ≤ m := Nat.le_trans List.count_le_length (List.length_take_le _ _)
            have hpm : p + m ≤ s.size := by
              have := hml
              simp at this
              omega
            obtain ⟨l6, hl6⟩ : ∃ l6, l2 + nls ((s.data.toList.drop p).take m) = l6 := ⟨_, rfl⟩
            rw [hl6] at HX
            have HSk := Aside0.mk (skip_any b true s (p + m) l6 .nilIface W5 HX.out hpm hs (by omega))
            go_wp2_with fail
            refine HSk.out.mono ?_
            rintro e W6 ⟨rfl, j6, i6, hj6, hLX, hini, hF6⟩
            have hd6 : s.data.toList.drop (p + m) = (s.data.toList.drop p).drop m := by rw [List.drop_drop]
            have HH6 := Aside0.mk (show Head s b pb J (gk - 1) (pre ++ [⟨2, p, l2, s.extract p (p + m), n⟩]) (p + m + j6) (l6 + nls ((s.data.toList.drop (p + m)).take j6)) i6 W6 from by
              have hjl : j6 ≤ s.size - (p + m) := by rw [hj6]; exact Nat.le_trans (skipN_le _ _) (by simp)
              obtain ⟨f, rfl⟩ : ∃ f, gk = f + 1 := ⟨gk - 1, by have := HH.out.fuel; omega⟩
              refine ⟨HR.out.step _ _ _ HJ1.out hF6, hLX, hini, hF6.blk HBx.out hpb, HL.out.keep (hF6.out.block _ (by omega) (fun e => by have := Option.some.inj e; omega)) (hF6.out.block _ (by omega) (fun e => by have := Option.some.inj e; omega)), ?_, ?_, by omega, ?_, ?_⟩
              · have := HH.out.len
                have h1 := HM1.out
                simp
                omega
              · have : nls ((s.data.toList.drop (p + m)).take j6) ≤ j6 := Nat.le_trans List.count_le_length (List.length_take_le _ _)
                omega
              · have := HH.out.fuel
                have h1 := HM1.out
                simp only [Nat.add_sub_cancel]
                omega
              · have hall := HH.out.all
                rw [lexG_tok (by rw [hR0]; exact List.cons_ne_nil _ _) HOne.out] at hall
                rw [← hd6, ← hj6, hl6, ← extract_arr, List.drop_drop] at hall
                rw [hall, List.append_assoc]
                rfl)
            clear HX HSk HJ1 HL HBx hj6 hLX hini hF6
            go_wp2
            go_roundg (gk - 1)
            case measure => have := HH.out.fuel; omega
            case rel => exact ⟨_, _, _, _, HH6⟩
        | false =>
          go_wp2_with fail
          refine (is_val b true _ c 4 _ h4 _ HX.out (by omega) (by omega)).mono ?_
          rintro e W' ⟨rfl, h1, f1⟩
          replace HX := Aside0.mk (show LX W' b true s p l2 .nilIface from h1)
          replace HF := Aside0.mk (HF.out.trans f1)
          replace HG := Aside0.mk (show TokB W' g 0 p l2 ⟨#[]⟩ 0 from f1.blk HG.out hgb)
          replace HBx := Aside0.mk (f1.blk HBx.out hpb)
          replace HL := Aside0.mk (HL.out.keep (f1.out.block _ (by omega) (fun e => by have := Option.some.inj e; omega)) (f1.out.block _ (by omega) (fun e => by have := Option.some.inj e; omega)))
          have hbW := blk_lt HX.out
          have hgW := blk_lt HG.out
          have hpW := blk_lt HBx.out
          have cp : W'.cell? ⟨pb, 0, none⟩ = some (.pointer (some ⟨b, 0, none⟩)) := blk_cell HBx.out 0
          clear h1 f1
          cases h8 : hasS (c : Int) 8 with
          | true =>
            go_wp2_with fail
            refine (is_val b true _ c 8 _ h8 _ HX.out (by omega) (by omega)).mono ?_
            rintro e W' ⟨rfl, h1, f1⟩
            replace HX := Aside0.mk (show LX W' b true s p l2 .nilIface from h1)
            replace HF := Aside0.mk (HF.out.trans f1)
            replace HG := Aside0.mk (show TokB W' g 0 p l2 ⟨#[]⟩ 0 from f1.blk HG.out hgb)
            replace HBx := Aside0.mk (f1.blk HBx.out hpb)
            replace HL := Aside0.mk (HL.out.keep (f1.out.block _ (by omega) (fun e => by have := Option.some.inj e; omega)) (f1.out.block _ (by omega) (fun e => by have := Option.some.inj e; omega)))
            have hbW := blk_lt HX.out
            have hgW := blk_lt HG.out
            have hpW := blk_lt HBx.out
            have cp : W'.cell? ⟨pb, 0, none⟩ = some (.pointer (some ⟨b, 0, none⟩)) := blk_cell HBx.out 0
            clear h1 f1
            obtain ⟨m, hm⟩ : ∃ m, markN (s.data.toList.drop p) = m := ⟨_, rfl⟩
            have HOne := Aside0.mk (show oneL (s.data.toList.drop p) = .tok 3 m 0 from by
              rw [← hm, hR0, oneL]; simp only [HC.out, h2, h4, h8, if_true, if_false, Bool.false_eq_true])
            have HM := Aside0.mk (show m ≤ (s.data.toList.drop p).length by rw [← hm, hR0]; exact markN_le _ _)
            have HM1 := Aside0.mk (show 1 ≤ m by rw [← hm]; exact markN_pos _)
            have HTok := Aside0.mk (mark_ok b g s p l2 m .nilIface 0 p l2 0 ⟨#[]⟩ W' HX.out HG.out hgb hlt hs hline HL.out.tab hm)
            clear hm
            go_wp2_with fail
            refine HTok.out.mono ?_
            rintro e W' ⟨rfl, f2, hx, hg⟩
            replace HJ1 := Aside0.mk (HR.out.step _ _ _ HJ1.out (Fr.two_new HF.out f2 hgW1))
            replace HBx := Aside0.mk ((f2.block pb hpW hpb (Ne.symm hgp)).trans HBx.out)
            replace HL := Aside0.mk (HL.out.keep (f2.block _ (by omega) (by omega) (by omega)) (f2.block _ (by omega) (by omega) (by omega)))
            replace HX := Aside0.mk hx
            replace HG := Aside0.mk hg
            have cp : W'.cell? ⟨pb, 0, none⟩ = some (.pointer (some ⟨b, 0, none⟩)) := blk_cell HBx.out 0
            have c3 : W'.cell? ⟨b, 262, none⟩ = some .nilIface := lx_at HX.out 3
            have z0 := blk_cell HG.out 0
            have z1 := blk_cell HG.out 1
            have z2 := blk_cell HG.out 2
            have z3 := blk_cell HG.out 3
            have z4 := blk_cell HG.out 4
            clear f2 hx hg
            obtain ⟨fn, tmps, assign, body, hy, hRd⟩ := HR.out.round pre ⟨3, p, l2, s.extract p (p + m), 0⟩ W' HJ1.out (by have := HH.out.len; omega)
            dsimp only [Tok.val] at hy
            have HRd := Aside0.mk hRd
            clear hRd
            go_upto_region 12 with (fail)
            refine (wpIn_wide (n := 3)).1 ?_
            gi_wp2
            refine HRd.out.mono ?_
            rintro e W5 ⟨rfl, hj5, hk5⟩
            replace HJ1 := Aside0.mk hj5
            have HK5 := Aside0.mk hk5
            clear hj5 hk5 hy HRd cp c3 z0 z1 z2 z3 z4
            gi_wp2
            replace HX := Aside0.mk (show LX W5 b true s (p + m) (l2 + nls ((s.data.toList.drop p).take m)) .nilIface by
              have := HX.out
              rw [extract_take] at this
              exact (HK5.out.lx.trans this))
            replace HBx := Aside0.mk (HK5.out.box.trans HBx.out)
            replace HL := Aside0.mk (HL.out.keep HK5.out.tab HK5.out.err)
            have hbW5 := blk_lt HX.out
            have hpW5 := blk_lt HBx.out
            have cp : W5.cell? ⟨pb, 0, none⟩ = some (.pointer (some ⟨b, 0, none⟩)) := blk_cell HBx.out 0
            have hml : m ≤ (s.data.toList.drop p).length := HM.out
            have hnl : nls ((s.data.toList.drop p).take m) ≤ m := Nat.le_trans List.count_le_length (List.length_take_le _ _)
            have hpm : p + m ≤ s.size := by
              have := hml
              simp at this
              omega
            obtain ⟨l6, hl6⟩ : ∃ l6, l2 + nls ((s.data.toList.drop p).take m) = l6 := ⟨_, rfl⟩
            rw [hl6] at HX
            have HSk := Aside0.mk (skip_any b true s (p + m) l6 .nilIface W5 HX.out hpm hs (by omega))
            go_wp2_with fail
            refine HSk.out.mono ?_
            rintro e W6 ⟨rfl, j6, i6, hj6, hLX, hini, hF6⟩
            have hd6 : s.data.toList.drop (p + m) = (s.data.toList.drop p).drop m := by rw [List.drop_drop]
            have HH6 := Aside0.mk (show Head s b pb J (gk - 1) (pre ++ [⟨3, p, l2, s.extract p (p + m), 0⟩]) (p + m + j6) (l6 + nls ((s.data.toList.drop (p + m)).take j6)) i6 W6 from by
              have hjl : j6 ≤ s.size - (p + m) := by rw [hj6]; exact Nat.le_trans (skipN_le _ _) (by simp)
              obtain ⟨f, rfl⟩ : ∃ f, gk = f + 1 := ⟨gk - 1, by have := HH.out.fuel; omega⟩
              refine ⟨HR.out.step _ _ _ HJ1.out hF6, hLX, hini, hF6.blk HBx.out hpb, HL.out.keep (hF6.out.block _ (by omega) (fun e => by have := Option.some.inj e; omega)) (hF6.out.block _ (by omega) (fun e => by have := Option.some.inj e; omega)), ?_, ?_, by omega, ?_, ?_⟩
              · have := HH.out.len
                have h1 := HM1.out
                simp
                omega
              · have : nls ((s.data.toList.drop (p + m)).take j6) ≤ j6 := Nat.le_trans List.count_le_length (List.length_take_le _ _)
                omega
              · have := HH.out.fuel
                have h1 := HM1.out
                simp only [Nat.add_sub_cancel]
                omega
              · have hall := HH.out.all
                rw [lexG_tok (by rw [hR0]; exact List.cons_ne_nil _ _) HOne.out] at hall
                rw [← hd6, ← hj6, hl6, ← extract_arr, List.drop_drop] at hall
                rw [hall, List.append_assoc]
                rfl)
            clear HX HSk HJ1 HL HBx hj6 hLX hini hF6
            go_wp2
            go_roundg (gk - 1)
            case measure => have := HH.out.fuel; omega
            case rel => exact ⟨_, _, _, _, HH6⟩
          | false =>
            go_wp2_with fail
            refine (is_val b true _ c 8 _ h8 _ HX.out (by omega) (by omega)).mono ?_
            rintro e W' ⟨rfl, h1, f1⟩
            replace HX := Aside0.mk (show LX W' b true s p l2 .nilIface from h1)
            replace HF := Aside0.mk (HF.out.trans f1)
            replace HG := Aside0.mk (show TokB W' g 0 p l2 ⟨#[]⟩ 0 from f1.blk HG.out hgb)
            replace HBx := Aside0.mk (f1.blk HBx.out hpb)
            replace HL := Aside0.mk (HL.out.keep (f1.out.block _ (by omega) (fun e => by have := Option.some.inj e; omega)) (f1.out.block _ (by omega) (fun e => by have := Option.some.inj e; omega)))
            have hbW := blk_lt HX.out
            have hgW := blk_lt HG.out
            have hpW := blk_lt HBx.out
            have cp : W'.cell? ⟨pb, 0, none⟩ = some (.pointer (some ⟨b, 0, none⟩)) := blk_cell HBx.out 0
            clear h1 f1
            have HOne := Aside0.mk (show oneL (s.data.toList.drop p) = .bad 7 0 from by
              rw [hR0, oneL]; simp only [HC.out, h2, h4, h8, if_true, if_false, Bool.false_eq_true])
            have c1 : W'.cell? ⟨b, 260, none⟩ = some (.int .i64 p) := lx_at HX.out 1
            have HBad := Aside0.mk (show Calls Tryz.prog 42 #[.pointer (some ⟨b, 0, none⟩), .int .i64 7, .int .i64 p] W'.drew (NumBad b g s 7 ((p + 0 : Nat) : Int) W') from (fail_any b true s p l2 .nilIface 7 p W'.drew (lx_drew HX.out)).mono fun e w' ⟨h1, h2, v, h3, h4, _⟩ => ⟨h1, (((Fr.refl b W').drew).trans h2).two g, v, _, _, h3, h4⟩)
            go_wp2
            go_still_tail 5, (by kernel_rfl)
            go_wp2_with fail
            refine HBad.out.mono ?_
            rintro e W' ⟨rfl, f2, v, p5, l5, ⟨g3, rfl, hv⟩, hx5⟩
            replace HX := Aside0.mk hx5
            have HFt := Aside0.mk hv
            replace HJ1 := Aside0.mk (HR.out.step _ _ _ HJ1.out (Fr.two_new HF.out f2 hgW1))
            have HBx5 := Aside0.mk ((f2.block pb hpW hpb (Ne.symm hgp)).trans HBx.out)
            have cp : W'.cell? ⟨pb, 0, none⟩ = some (.pointer (some ⟨b, 0, none⟩)) := blk_cell HBx5.out 0
            have c3 : W'.cell? ⟨b, 262, none⟩ = some (.iface 56 (.pointer (some ⟨g3, 0, none⟩))) := lx_at HX.out 3
            clear f2 hv hx5
            go_wp2
            refine bodyPost_ret (results_none rfl _ _ _) rfl ?_
            obtain ⟨f, rfl⟩ : ∃ f, gk = f + 1 := ⟨gk - 1, by have := HH.out.fuel; omega⟩
            have hall := HH.out.all
            rw [lexG_bad (by rw [hR0]; exact List.cons_ne_nil _ _) HOne.out] at hall
            refine ⟨rfl, ?_, true, p5, l5, _, HX.out, ?_⟩
            · rw [hall, List.append_nil]
              exact HJ1.out
            · rw [hall]
              exact ⟨g3, rfl, HFt.out⟩
    · have hdec : decide (p < s.size) = false := decide_eq_false hlt
      go_wp2
      go_quiet (fail)
      go_wp2
      have HJ1 := Aside0.mk (HR.out.step _ _ _ HH.out.j (((Fr.refl b wr).drewN nq).drew))
      have HX1 := Aside0.mk (show LX (wr.drewN nq).drew b i3 s p l2 .nilIface from HH.out.lx)
      have cp1 : (wr.drewN nq).cell? ⟨pb, 0, none⟩ = some (.pointer (some ⟨b, 0, none⟩)) := blk_cell HH.out.box 0
      have c11 : (wr.drewN nq).cell? ⟨b, 260, none⟩ = some (.int .i64 p) := lx_at HH.out.lx 1
      have c21 : (wr.drewN nq).cell? ⟨b, 261, none⟩ = some (.int .i64 l2) := lx_at HH.out.lx 2
      have hlen := HH.out.len
      generalize wr.drewN nq = W1 at *
      obtain ⟨fn, tmps, assign, body, hy, hRd⟩ := HR.out.round pre ⟨0, p, l2, ⟨#[]⟩, 0⟩ W1.drew HJ1.out (by omega)
      dsimp only [Tok.val] at hy
      have HRd := Aside0.mk hRd
      clear hRd
      refine (wpIn_wide (n := 3)).1 ?_
      gi_region_with (refine HRd.out.mono ?_; rintro e W2 ⟨rfl, hj2, hk2⟩; have HJ2 := Aside0.mk hj2; have HK2 := Aside0.mk hk2; clear hj2 hk2)
      all_goals
        go_wp2
        go_end0
        obtain ⟨f, rfl⟩ : ∃ f, gk = f + 1 := ⟨gk - 1, by have := HH.out.fuel; omega⟩
        have hall := HH.out.all
        rw [show s.data.toList.drop p = [] from List.drop_eq_nil_of_le (by simp; omega), lexG_end] at hall
        refine ⟨rfl, ?_, i3, p, l2, .nilIface, ?_, ?_⟩
        · rw [hall]
          exact HJ2.out
        · exact HK2.out.lx.trans HX1.out
        · rw [hall]
end Go.Proofs.YtdlfjokhgmngcaaGreatDoor.Lx
