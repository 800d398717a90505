/- The lexer's method number. -/
import Derived.Test.YtdlfjokhgmngcaaGreatDoorLexA
import Derived.Test.YtdlfjokhgmngcaaGreatDoorLexN
import Derived.Deep.CutBlock
import Derived.Deep.DeepCutAuto
namespace Go.Proofs.YtdlfjokhgmngcaaGreatDoor.Lx
open Go.RowKit Go.Shelf Go.Proofs.YtdlfjokhgmngcaaGreatDoorW.PrintWords
set_option linter.unusedVariables false
set_option linter.unusedSimpArgs false

def hxB (R : List UInt8) : Bool := List.isPrefixOf [48, 120] R
def nHead (R : List UInt8) : Nat := if hxB R then 2 else 0
def nBase (R : List UInt8) : Nat := if hxB R then 16 else 10
def nDig (R : List UInt8) : Nat := digN (nBase R : Int) (R.drop (nHead R))
def nLen (R : List UInt8) : Nat := nHead R + nDig R
def nVal (R : List UInt8) : Nat := valN (nBase R) 0 ((R.drop (nHead R)).take (nDig R))

/-- Behind a number that is none. -/
def NumBad (b g : Nat) (s : ByteArray) (code pl : Int) (w : World) (e : Ending) (w' : World) : Prop :=
  e = .returned (.tuple #[]) ∧ Fr2 b g w w' ∧ ∃ v p' l', FaultAt w' v code pl ∧ LX w' b true s p' l' v

theorem nHead_le (R : List UInt8) : nHead R ≤ R.length := by
  unfold nHead
  split
  · rename_i h
    exact (List.isPrefixOf_iff_prefix.1 h).length_le
  · omega
theorem nLen_le (R : List UInt8) : nLen R ≤ R.length := by
  have h1 := nHead_le R
  have h2 : nDig R ≤ (R.drop (nHead R)).length := List.Sublist.length_le (List.takeWhile_sublist _)
  rw [List.length_drop] at h2
  unfold nLen; omega
theorem take_while_all {p : UInt8 → Bool} (l : List UInt8) : ∀ c ∈ l.take (l.takeWhile p).length, p c = true := by
  intro c hc
  have : l.take (l.takeWhile p).length = l.takeWhile p := by
    have h := List.takeWhile_append_dropWhile (p := p) (l := l)
    conv => lhs; rw [← h]
    rw [List.take_append_of_le_length (by rw [h]; exact Nat.le_refl _)]
    rw [h]
    simp
  rw [this] at hc
  exact List.all_eq_true.1 List.all_takeWhile c hc

/-- The call of 'ParseUint', at the digits. -/
theorem nParse (R : List UInt8) (q : ByteArray) (hq : q.data.toList = (R.drop (nHead R)).take (nDig R)) (h0 : q.size ≠ 0) (hmax : q.size ≤ 20000) (w : World) (hL : Laid w) :
    Calls Tryz.prog 64 #[.string q, .int .i64 (nBase R), .int .i64 64] w (PU (nVal R) w) := by
  have hall : ∀ c ∈ q.data.toList, stopB (nBase R : Int) c.toNat = false := by
    intro c hc
    rw [hq] at hc
    have := take_while_all (p := fun c : UInt8 => !stopB (nBase R : Int) c.toNat) (R.drop (nHead R)) c hc
    simpa using this
  unfold nVal
  rw [← hq]
  unfold nBase at hall ⊢
  cases h : hxB R with
  | true =>
    simp only [h, if_true] at hall ⊢
    refine parse16 q h0 hmax (fun c hc => ?_) w hL
    have := hall c hc
    simpa [stopB] using this
  | false =>
    simp only [h, Bool.false_eq_true, if_false] at hall ⊢
    refine parse10 q h0 hmax (fun c hc => ?_) w hL
    have := hall c hc
    simpa [stopB] using this

/-- Does a sign of a name stand behind the digits? -/
def nTail (R : List UInt8) : Bool := match R[nLen R]? with
  | some c => hasS (c.toNat : Int) 6
  | none => false

/-- Behind 'number'. -/
def NumPost (b g : Nat) (s : ByteArray) (p l : Nat) (err : Value) (a0 l0 : Int) (w : World) (e : Ending) (w' : World) : Prop :=
  if nDig (s.data.toList.drop p) = 0 then NumBad b g s 7 (p + nLen (s.data.toList.drop p) : Nat) w e w'
  else if 4294967296 ≤ nVal (s.data.toList.drop p) then NumBad b g s 10 p w e w'
  else if nTail (s.data.toList.drop p) = true then NumBad b g s 7 (p + nLen (s.data.toList.drop p) : Nat) w e w'
  else Read b g s p l (nLen (s.data.toList.drop p)) err 2 a0 l0 (nVal (s.data.toList.drop p)) w e w'

set_option maxHeartbeats 6400000 in
set_option maxRecDepth 100000 in
theorem number_any (b g : Nat) (s : ByteArray) (p l : Nat) (err : Value) (k0 a0 l0 n0 : Int) (t0 : ByteArray) (w : World) (hb : LX w b true s p l err) (hg : TokB w g k0 a0 l0 t0 n0) (hgb : g ≠ b) (hn : p < s.size) (hs : s.size ≤ 20000) (hl : l ≤ p + 1) (hL : Laid w) (hlow : 8 < b ∧ 8 < g) :
    Calls Tryz.prog 40 #[.pointer (some ⟨b, 0, none⟩), .pointer (some ⟨g, 0, none⟩)] w (NumPost b g s p l err a0 l0 w) := by
  have hbl := blk_lt hb
  have hgl := blk_lt hg
  have HB := Aside0.mk (lx_alloc hb (.cells #[.int .i64 10] 3))
  have HG := Aside0.mk (show TokB (w.alloc (.cells #[.int .i64 10] 3)) g k0 a0 l0 t0 n0 from blk_alloc hg _)
  have HF := Aside0.mk ((Fr.refl b w).alloc (.cells #[.int .i64 10] 3))
  have HC := Aside0.mk (blk_new w (.cells #[.int .i64 10] 3))
  have HLw := Aside0.mk hL
  have hc0 : w.cell? ⟨b, 259, none⟩ = some (.string s) := lx_at hb 0
  have hc1 : w.cell? ⟨b, 260, none⟩ = some (.int .i64 p) := lx_at hb 1
  have c0 : (w.alloc (.cells #[.int .i64 10] 3)).cell? ⟨b, 259, none⟩ = some (.string s) := lx_at HB.out 0
  have c1 : (w.alloc (.cells #[.int .i64 10] 3)).cell? ⟨b, 260, none⟩ = some (.int .i64 p) := lx_at HB.out 1
  have hlen := nLen_le (s.data.toList.drop p)
  have hhead := nHead_le (s.data.toList.drop p)
  have hll : (s.data.toList.drop p).length = s.size - p := by simp
  rw [hll] at hlen hhead
  obtain ⟨d, hd⟩ : ∃ d, nDig (s.data.toList.drop p) = d := ⟨_, rfl⟩
  have HLEN := Aside0.mk (show nHead (s.data.toList.drop p) + d ≤ s.size - p from hd ▸ hlen)
  have HDig := Aside0.mk hd
  clear hb hg hL hlen hll hd
  have hmf : ∀ (fn : Fn) (first cap : Array Value) (w : World), (Instr.makeFunc fn first cap).run Tryz.prog w = .ok (.func fn first cap) w := fun _ _ _ _ => rfl
  cases hx : hxB (s.data.toList.drop p) with
  | true =>
    have hh0 : nHead (s.data.toList.drop p) = 2 := by unfold nHead; rw [hx]; rfl
    have HBase := Aside0.mk (show nBase (s.data.toList.drop p) = 16 by unfold nBase; rw [hx]; rfl)
    rw [hh0] at hhead
    have HHD := Aside0.mk hh0
    have hln0 := HLEN.out
    rw [hh0] at hln0
    have HP := Aside0.mk (show ∀ w, Calls Tryz.prog 34 #[.string (s.extract p s.size), .string ⟨#[48, 120]⟩] w fun e w' => e = .returned (.bool true) ∧ w = w' from fun w => hasPrefix_any _ _ true w (by rw [extract_list]; exact hx))
    clear hx hh0
    go_enter Tryz.func40, Tryz.ntmps40
    go_wp2
    go_quiet ((go_at_call 34; exact Calls.quiet_of_same ((HP.out _).mono fun _ _ h => ⟨h.1, h.2.symm⟩)))
    clear c0 c1 hc0 hc1 HP

    have HB1 := Aside0.mk (show LX (((w.alloc (.cells #[.int .i64 10] 3)).drewN nq).setCell ⟨w.heap.size, 0, none⟩ (.int .i64 16)) b true s p l err from blk_far (lx_drewN HB.out nq) (by simp; omega) _)
    have HG1 := Aside0.mk (show TokB (((w.alloc (.cells #[.int .i64 10] 3)).drewN nq).setCell ⟨w.heap.size, 0, none⟩ (.int .i64 16)) g k0 a0 l0 t0 n0 from blk_far (blk_drewN HG.out nq) (by simp; omega) _)
    have HF1 := Aside0.mk (show Fr b w (((w.alloc (.cells #[.int .i64 10] 3)).drewN nq).setCell ⟨w.heap.size, 0, none⟩ (.int .i64 16)) from ⟨⟨rfl, rfl, rfl, by simp [World.setCell], fun k hk hne => by rw [Below.heap_setCell _ _ _ _ (by simp; omega)]; exact Below.heap_alloc w _ k hk⟩⟩)
    have HC1 := Aside0.mk (blk_set (blk_drewN HC.out nq) 0 (.int .i64 16))
    have cz : ((w.alloc (.cells #[.int .i64 10] 3)).drewN nq).cell? ⟨w.heap.size, 0, none⟩ = some (.int .i64 10) := blk_cell (blk_drewN HC.out nq) 0
    have fz : ((w.alloc (.cells #[.int .i64 10] 3)).drewN nq).frozen? ⟨w.heap.size, 0, none⟩ = false := blk_frozen (blk_drewN HC.out nq) 0
    go_upto_region 4 with (fail)
    clear cz fz HB HG HF HC
    generalize ((w.alloc (.cells #[.int .i64 10] 3)).drewN nq).setCell ⟨w.heap.size, 0, none⟩ (.int .i64 16) = W1 at *
    have c0 : W1.cell? ⟨b, 259, none⟩ = some (.string s) := lx_at HB1.out 0
    have c1 : W1.cell? ⟨b, 260, none⟩ = some (.int .i64 p) := lx_at HB1.out 1
    go_wp2
    have u1 : IntKind.i64.wrap ((p : Int) + 2) = (p : Int) + 2 := IntWalk.i64_in _ (by omega)
    have u2 : (0 : Int) ≤ (p : Int) + 2 := by omega
    have u3 : ((p : Int) + 2).toNat = p + 2 := by omega
    have u4 : (p : Int) + 2 ≤ (s.size : Int) := by omega
    go_quiet (fail)
    clear u1 u2 u3 u4
    have HB2 := Aside0.mk (show LX (W1.drewN nq) b true s p l err from HB1.out)
    have HG2 := Aside0.mk (show TokB (W1.drewN nq) g k0 a0 l0 t0 n0 from HG1.out)
    have HF2 := Aside0.mk (HF1.out.drewN nq)
    have HC2 := Aside0.mk (show (W1.drewN nq).heap[w.heap.size]? = some (.cells #[.int .i64 16] 3 (0, 0)) from HC1.out)
    clear c0 c1
    generalize W1.drewN nq = W2 at *
    have hql : (s.extract (p + 2) s.size).data.toList = (s.data.toList.drop p).drop 2 := by rw [extract_list, List.drop_drop] <;> rfl
    have hqs : (s.extract (p + 2) s.size).size = s.size - (p + 2) := by simp
    obtain ⟨q, hq⟩ : ∃ q, s.extract (p + 2) s.size = q := ⟨_, rfl⟩
    rw [hq] at hql hqs
    rw [hq]
    have HQL := Aside0.mk hql
    clear hq hql
    have HI := Aside0.mk (index_any 16 (by decide) w.heap.size q W2 (blk_cell HC2.out 0))
    have hdd : digN 16 q.data.toList = d := by
      rw [HQL.out, ← HDig.out, nDig, HBase.out, HHD.out]; rfl
    rw [hdd] at HI
    clear hdd
    have hqd : d < q.size ∨ d = q.size := by omega
    by_cases hdq : d < q.size
    · rw [if_pos hdq] at HI
      go_wp2_with fail
      refine HI.out.mono ?_
      rintro e W3 ⟨rfl, hb3⟩
      have HB3 := Aside0.mk (show LX W3 b true s p l err from blk_below HB2.out hb3)
      have HG3 := Aside0.mk (show TokB W3 g k0 a0 l0 t0 n0 from blk_below HG2.out hb3)
      have HC3 := Aside0.mk (blk_below HC2.out hb3)
      have HF3 := Aside0.mk (HF2.out.below hb3)
      clear hb3 HI
      have HL3 := Aside0.mk (HLw.out.keep (HF3.out.out.block _ (by omega) (fun e => by have := Option.some.inj e; omega)) (HF3.out.out.block _ (by omega) (fun e => by have := Option.some.inj e; omega)))
      have hds : (q.extract 0 d).size = d := by simp; omega
      clear hqs hqd
      have hdl : (q.extract 0 d).data.toList = ((s.data.toList.drop p).drop 2).take d := by rw [← HQL.out]; simp
      go_upto_region 10 with (fail)
      obtain ⟨D, hD⟩ : ∃ D, q.extract 0 d = D := ⟨_, rfl⟩
      rw [hD] at hds hdl
      rw [hD]
      have HDL := Aside0.mk hdl
      clear hD hdl
      have HLenE := Aside0.mk (show nLen (s.data.toList.drop p) = 2 + d by unfold nLen; rw [HHD.out, HDig.out])
      have HNL := Aside0.mk (show (((p + nLen (s.data.toList.drop p)) : Nat) : Int) = ((p : Int) + 2 + (d : Int)) by rw [HLenE.out]; omega)
      have c1 : W3.cell? ⟨b, 260, none⟩ = some (.int .i64 p) := lx_at HB3.out 1
      by_cases hd0 : d = 0
      · have HDig0 := Aside0.mk (show nDig (s.data.toList.drop p) = 0 from HDig.out.trans hd0)
        have hemp : D.toList.isEmpty = true := by
          rw [← decide_eq_emptyBytes]
          exact decide_eq_true (by
            obtain ⟨⟨x⟩⟩ := D
            cases x with
            | nil => rfl
            | cons _ _ => simp [ByteArray.size] at hds; omega)
        clear hd0
        go_wp2_with fail
        refine (fail_any b true s p l err 7 _ _ (by exact HB3.out)).mono ?_
        rintro e Wf ⟨rfl, ff, vf, hfv, hLXf, gf, hgf, hvf⟩
        have HBf := Aside0.mk hLXf
        have HFf := Aside0.mk (HF3.out.step ff rfl rfl rfl rfl)
        have HFv := Aside0.mk hfv
        clear hfv hLXf hgf hvf ff
        go_wp2
        go_end0
        show NumPost b g s p l err a0 l0 w _ _
        rw [NumPost, if_pos HDig0.out]
        refine ⟨rfl, HFf.out.two g, _, _, _, ?_, HBf.out⟩
        rw [HNL.out]
        exact HFv.out
      · have hemp : D.toList.isEmpty = false := by
          rw [← decide_eq_emptyBytes]
          exact decide_eq_false (fun h => hd0 (by rw [← hds, h]; rfl))
        have HP3 := Aside0.mk (nParse (s.data.toList.drop p) D (by rw [HDL.out, HHD.out, HDig.out]) (by rw [hds]; exact hd0) (by omega) W3 HL3.out)
        rw [HBase.out] at HP3
        have b3 : W3.cell? ⟨w.heap.size, 0, none⟩ = some (.int .i64 16) := blk_cell HC3.out 0
        obtain ⟨v, hv⟩ : ∃ v, nVal (s.data.toList.drop p) = v := ⟨_, rfl⟩
        rw [hv] at HP3
        have HVal := Aside0.mk hv
        clear hv
        go_wp2_with fail
        refine HP3.out.mono ?_
        rintro e W4 ⟨hb4, ⟨hv, rfl⟩ | ⟨hv, n4, x4, rfl⟩⟩
        · have HB4 := Aside0.mk (show LX W4 b true s p l err from blk_below HB3.out hb4)
          have HG4 := Aside0.mk (show TokB W4 g k0 a0 l0 t0 n0 from blk_below HG3.out hb4)
          have HF4 := Aside0.mk (HF3.out.below hb4)
          clear hb4 HP3 c1 b3
          have c0 : W4.cell? ⟨b, 259, none⟩ = some (.string s) := lx_at HB4.out 0
          by_cases hv32 : 4294967296 ≤ v
          · have HV := Aside0.mk (show 4294967296 ≤ nVal (s.data.toList.drop p) from HVal.out ▸ hv32)
            have hge : decide ((4294967296 : Int) ≤ (v : Int)) = true := decide_eq_true (by omega)
            clear hv32
            go_wp2_with fail
            refine (fail_any b true s p l err 10 p _ (by exact HB4.out)).mono ?_
            rintro e Wf ⟨rfl, ff, vf, hfv, hLXf, gf, hgf, hvf⟩
            have HBf := Aside0.mk hLXf
            have HFf := Aside0.mk (HF4.out.step ff rfl rfl rfl rfl)
            have HGf := Aside0.mk (show TokB Wf g k0 a0 l0 t0 n0 from ff.blk (by exact HG4.out) hgb)
            have HFv := Aside0.mk hfv
            have hgsz : b < W4.heap.size ∧ g < W4.heap.size := ⟨blk_lt HB4.out, blk_lt HG4.out⟩
            have hgf' : W4.heap.size ≤ gf := hgf
            have HGf2 := Aside0.mk (show ∀ g2, vf = .iface 56 (.pointer (some ⟨g2, 0, none⟩)) → b < g2 from fun g2 e => by rw [hvf] at e; injection e with _ e; injection e with e; injection (Option.some.inj e) with e; omega)
            have HGf3 := Aside0.mk (show ∀ g2, vf = .iface 56 (.pointer (some ⟨g2, 0, none⟩)) → g2 ≠ g from fun g2 e => by rw [hvf] at e; injection e with _ e; injection e with e; injection (Option.some.inj e) with e; omega)
            clear hfv hLXf hgf hvf ff hgf' hgsz

            go_wp2_with (go_at_call 55; refine (take_int b true s p l (2 + d) _ _ _ (by omega) HBf.out (by omega) hs (by omega)).mono ?_; rintro e w2 ⟨rfl, h2, f2⟩; have HB2 := Aside0.mk h2; have HF2 := Aside0.mk (HFf.out.trans f2); have HG2 := Aside0.mk (show TokB w2 g k0 a0 l0 t0 n0 from f2.blk HGf.out hgb); obtain ⟨gf, hvf, hgf⟩ := HFv.out; have HGF := Aside0.mk (f2.blk hgf (fun e => by have := HGf2.out gf hvf; omega)); have hgfne := HGf3.out gf hvf; have HVF := Aside0.mk hvf; clear hvf hgf; obtain ⟨c1, c2, c3, z1, z2, z3⟩ := tok_cells HG2.out; clear h2 f2)
            go_end0

            show NumPost b g s p l err a0 l0 w _ _
            rw [NumPost, if_neg (by rw [HDig.out]; omega), if_pos HV.out]
            refine ⟨rfl, ?_, vf, p + (2 + d), l + nls (s.extract p (p + (2 + d))).data.toList, ⟨gf, HVF.out, ?_⟩, ?_⟩
            · exact ((HF2.out.two g).trans ((((Fr.refl g _).set 0 _).set 4 _).set 3 _ |>.two' b))
            · exact blk_far (blk_far (blk_far HGF.out hgfne _) hgfne _) hgfne _
            · exact blk_far (blk_far (blk_far HB2.out (Ne.symm hgb) _) (Ne.symm hgb) _) (Ne.symm hgb) _

          · have HV := Aside0.mk (show ¬ 4294967296 ≤ nVal (s.data.toList.drop p) from HVal.out ▸ hv32)
            have hge : decide ((4294967296 : Int) ≤ (v : Int)) = false := decide_eq_false (by omega)
            have HV32 := Aside0.mk hv32
            clear hv32
            obtain ⟨NE, hNE⟩ : ∃ NE, p + (2 + d) = NE := ⟨_, rfl⟩
            have ht : (((p : Int) + 2 + (d : Int))).toNat = NE := by omega
            have y0 : (0 : Int) ≤ ((p : Int) + 2 + (d : Int)) := by omega
            have HNE := Aside0.mk hNE
            by_cases hlt : NE < s.size
            · have y1 : ((p : Int) + 2 + (d : Int)) < (s.size : Int) := by omega
              have y2 : decide (((p : Int) + 2 + (d : Int)) < (s.size : Int)) = true := decide_eq_true y1
              obtain ⟨c, hc⟩ : ∃ c : Nat, (s[NE]'hlt).toNat = c := ⟨_, rfl⟩
              have hcn : c < 256 := by rw [← hc]; exact (s[NE]'hlt).toNat_lt
              have hidx : ∀ h : NE < s.size, (s[NE]'h).toNat = c := fun _ => hc
              have htl : nTail (s.data.toList.drop p) = hasS c 6 := by
                unfold nTail
                rw [HLenE.out, List.getElem?_drop, HNE.out, List.getElem?_eq_getElem (by simpa using hlt)]
                show hasS (((s[NE]'hlt).toNat : Nat) : Int) 6 = _
                rw [hc]
              clear hc hNE
              cases hh : hasS c 6 with
              | true =>
                have HTail := Aside0.mk (show nTail (s.data.toList.drop p) = true from htl.trans hh)
                have HCon := Aside0.mk (show ∀ W, LX W b true s p l err → Calls Tryz.prog 38 #[.pointer (some ⟨b, 0, none⟩), .int .u8 c, .int .u8 6] W fun e w' => e = .returned (.bool true) ∧ LX w' b true s p l err ∧ Fr b W w' from
                  fun W h => hh ▸ is_any b true _ c 6 W h (by omega) (by omega))
                clear hh htl
                go_wp2
                go_still_tail 17, (by kernel_rfl)
                go_wp2_with (go_at_call 38; refine (HCon.out _ (by exact HB4.out)).mono ?_; rintro e W5 ⟨rfl, h5, f5⟩; have HB5 := Aside0.mk h5; have HF5 := Aside0.mk (HF4.out.step f5 rfl rfl rfl rfl); have HG5 := Aside0.mk (show TokB W5 g k0 a0 l0 t0 n0 from f5.blk (by exact HG4.out) hgb); clear h5 f5)
                clear HB4 HF4 HG4 ht y0 y1 y2 hidx
                obtain ⟨W4, rfl⟩ : ∃ W4, W4 = W5 := ⟨_, rfl⟩
                have HB4 := HB5
                have HF4 := HF5
                have HG4 := HG5
                refine (fail_any b true s p l err 7 _ _ (by exact HB4.out)).mono ?_
                rintro e Wf ⟨rfl, ff, vf, hfv, hLXf, gf, hgf, hvf⟩
                have HBf := Aside0.mk hLXf
                have HFf := Aside0.mk (HF4.out.step ff rfl rfl rfl rfl)
                have HGf := Aside0.mk (show TokB Wf g k0 a0 l0 t0 n0 from ff.blk (by exact HG4.out) hgb)
                have HFv := Aside0.mk hfv
                have hgsz : b < W4.heap.size ∧ g < W4.heap.size := ⟨blk_lt HB4.out, blk_lt HG4.out⟩
                have hgf' : W4.heap.size ≤ gf := hgf
                have HGf2 := Aside0.mk (show ∀ g2, vf = .iface 56 (.pointer (some ⟨g2, 0, none⟩)) → b < g2 from fun g2 e => by rw [hvf] at e; injection e with _ e; injection e with e; injection (Option.some.inj e) with e; omega)
                have HGf3 := Aside0.mk (show ∀ g2, vf = .iface 56 (.pointer (some ⟨g2, 0, none⟩)) → g2 ≠ g from fun g2 e => by rw [hvf] at e; injection e with _ e; injection e with e; injection (Option.some.inj e) with e; omega)
                clear hfv hLXf hgf hvf ff hgf' hgsz

                go_wp2_with (go_at_call 55; refine (take_int b true s p l (2 + d) _ _ _ (by omega) HBf.out (by omega) hs (by omega)).mono ?_; rintro e w2 ⟨rfl, h2, f2⟩; have HB2 := Aside0.mk h2; have HF2 := Aside0.mk (HFf.out.trans f2); have HG2 := Aside0.mk (show TokB w2 g k0 a0 l0 t0 n0 from f2.blk HGf.out hgb); obtain ⟨gf, hvf, hgf⟩ := HFv.out; have HGF := Aside0.mk (f2.blk hgf (fun e => by have := HGf2.out gf hvf; omega)); have hgfne := HGf3.out gf hvf; have HVF := Aside0.mk hvf; clear hvf hgf; obtain ⟨c1, c2, c3, z1, z2, z3⟩ := tok_cells HG2.out; clear h2 f2)
                go_end0

                show NumPost b g s p l err a0 l0 w _ _
                rw [NumPost, if_neg (by rw [HDig.out]; omega), if_neg (by have := HV.out; omega), if_pos HTail.out, HNL.out]
                refine ⟨rfl, ?_, vf, p + (2 + d), l + nls (s.extract p (p + (2 + d))).data.toList, ⟨gf, HVF.out, ?_⟩, ?_⟩
                · exact ((HF2.out.two g).trans ((((Fr.refl g _).set 0 _).set 4 _).set 3 _ |>.two' b))
                · exact blk_far (blk_far (blk_far HGF.out hgfne _) hgfne _) hgfne _
                · exact blk_far (blk_far (blk_far HB2.out (Ne.symm hgb) _) (Ne.symm hgb) _) (Ne.symm hgb) _

              | false =>
                have HTail := Aside0.mk (show nTail (s.data.toList.drop p) = false from htl.trans hh)
                have HCon := Aside0.mk (show ∀ W, LX W b true s p l err → Calls Tryz.prog 38 #[.pointer (some ⟨b, 0, none⟩), .int .u8 c, .int .u8 6] W fun e w' => e = .returned (.bool false) ∧ LX w' b true s p l err ∧ Fr b W w' from
                  fun W h => hh ▸ is_any b true _ c 6 W h (by omega) (by omega))
                clear hh htl
                go_wp2
                go_still_tail 17, (by kernel_rfl)
                go_wp2_with (go_at_call 38; refine (HCon.out _ (by exact HB4.out)).mono ?_; rintro e W5 ⟨rfl, h5, f5⟩; have HBf := Aside0.mk h5; have HFf := Aside0.mk (HF4.out.step f5 rfl rfl rfl rfl); have HGf := Aside0.mk (show TokB W5 g k0 a0 l0 t0 n0 from f5.blk (by exact HG4.out) hgb); clear h5 f5)
                clear HB4 HF4 HG4 ht y0 y1 y2 hidx
                go_wp2_with (go_at_call 55; refine (take_int b true s p l (2 + d) _ _ _ (by omega) HBf.out (by omega) hs (by omega)).mono ?_; rintro e w2 ⟨rfl, h2, f2⟩; have HB2 := Aside0.mk h2; have HF2 := Aside0.mk (HFf.out.trans f2); have HG2 := Aside0.mk (show TokB w2 g k0 a0 l0 t0 n0 from f2.blk HGf.out hgb); obtain ⟨c1, c2, c3, z1, z2, z3⟩ := tok_cells HG2.out; clear h2 f2)
                go_end0

                show NumPost b g s p l err a0 l0 w _ _
                rw [NumPost, if_neg (by rw [HDig.out]; omega), if_neg (by have := HV.out; omega), if_neg (by rw [HTail.out]; decide), HLenE.out, HVal.out]
                have hw : wrap64 (v : Int) = (v : Int) := by have := HV32.out; unfold wrap64; omega
                rw [hw]
                refine ⟨rfl, ?_, ?_, ?_⟩
                · exact ((HF2.out.two g).trans ((((Fr.refl g _).set 0 _).set 4 _).set 3 _ |>.two' b))
                · exact blk_far (blk_far (blk_far HB2.out (Ne.symm hgb) _) (Ne.symm hgb) _) (Ne.symm hgb) _
                · exact blk_set (blk_set (blk_set HG2.out 0 _) 4 _) 3 _

            · have y1 : ¬ ((p : Int) + 2 + (d : Int)) < (s.size : Int) := by omega
              have y2 : decide (((p : Int) + 2 + (d : Int)) < (s.size : Int)) = false := decide_eq_false y1
              have HTail := Aside0.mk (show nTail (s.data.toList.drop p) = false by
                unfold nTail
                rw [HLenE.out, List.getElem?_drop, HNE.out, List.getElem?_eq_none (by simpa using hlt)])
              clear hNE ht
              go_wp2
              go_quiet (fail)
              have HBf := Aside0.mk (show LX (W4.drewN nq) b true s p l err from HB4.out)
              have HFf := Aside0.mk (HF4.out.drewN nq)
              have HGf := Aside0.mk (show TokB (W4.drewN nq) g k0 a0 l0 t0 n0 from HG4.out)
              generalize W4.drewN nq = W5 at *
              clear HB4 HF4 HG4 y0 y1 y2 c0
              go_wp2_with (go_at_call 55; refine (take_int b true s p l (2 + d) _ _ _ (by omega) HBf.out (by omega) hs (by omega)).mono ?_; rintro e w2 ⟨rfl, h2, f2⟩; have HB2 := Aside0.mk h2; have HF2 := Aside0.mk (HFf.out.trans f2); have HG2 := Aside0.mk (show TokB w2 g k0 a0 l0 t0 n0 from f2.blk HGf.out hgb); obtain ⟨c1, c2, c3, z1, z2, z3⟩ := tok_cells HG2.out; clear h2 f2)
              go_end0

              show NumPost b g s p l err a0 l0 w _ _
              rw [NumPost, if_neg (by rw [HDig.out]; omega), if_neg (by have := HV.out; omega), if_neg (by rw [HTail.out]; decide), HLenE.out, HVal.out]
              have hw : wrap64 (v : Int) = (v : Int) := by have := HV32.out; unfold wrap64; omega
              rw [hw]
              refine ⟨rfl, ?_, ?_, ?_⟩
              · exact ((HF2.out.two g).trans ((((Fr.refl g _).set 0 _).set 4 _).set 3 _ |>.two' b))
              · exact blk_far (blk_far (blk_far HB2.out (Ne.symm hgb) _) (Ne.symm hgb) _) (Ne.symm hgb) _
              · exact blk_set (blk_set (blk_set HG2.out 0 _) 4 _) 3 _

        · have HB4 := Aside0.mk (show LX W4 b true s p l err from blk_below HB3.out hb4)
          have HG4 := Aside0.mk (show TokB W4 g k0 a0 l0 t0 n0 from blk_below HG3.out hb4)
          have HF4 := Aside0.mk (HF3.out.below hb4)
          clear hb4 HP3 c1 b3
          have HV := Aside0.mk (show 4294967296 ≤ nVal (s.data.toList.drop p) by rw [HVal.out]; omega)
          clear hv
          go_wp2_with fail
          refine (fail_any b true s p l err 10 p _ (by exact HB4.out)).mono ?_
          rintro e Wf ⟨rfl, ff, vf, hfv, hLXf, gf, hgf, hvf⟩
          have HBf := Aside0.mk hLXf
          have HFf := Aside0.mk (HF4.out.step ff rfl rfl rfl rfl)
          have HGf := Aside0.mk (show TokB Wf g k0 a0 l0 t0 n0 from ff.blk (by exact HG4.out) hgb)
          have HFv := Aside0.mk hfv
          have hgsz : b < W4.heap.size ∧ g < W4.heap.size := ⟨blk_lt HB4.out, blk_lt HG4.out⟩
          have hgf' : W4.heap.size ≤ gf := hgf
          have HGf2 := Aside0.mk (show ∀ g2, vf = .iface 56 (.pointer (some ⟨g2, 0, none⟩)) → b < g2 from fun g2 e => by rw [hvf] at e; injection e with _ e; injection e with e; injection (Option.some.inj e) with e; omega)
          have HGf3 := Aside0.mk (show ∀ g2, vf = .iface 56 (.pointer (some ⟨g2, 0, none⟩)) → g2 ≠ g from fun g2 e => by rw [hvf] at e; injection e with _ e; injection e with e; injection (Option.some.inj e) with e; omega)
          clear hfv hLXf hgf hvf ff hgf' hgsz

          go_wp2_with (go_at_call 55; refine (take_int b true s p l (2 + d) _ _ _ (by omega) HBf.out (by omega) hs (by omega)).mono ?_; rintro e w2 ⟨rfl, h2, f2⟩; have HB2 := Aside0.mk h2; have HF2 := Aside0.mk (HFf.out.trans f2); have HG2 := Aside0.mk (show TokB w2 g k0 a0 l0 t0 n0 from f2.blk HGf.out hgb); obtain ⟨gf, hvf, hgf⟩ := HFv.out; have HGF := Aside0.mk (f2.blk hgf (fun e => by have := HGf2.out gf hvf; omega)); have hgfne := HGf3.out gf hvf; have HVF := Aside0.mk hvf; clear hvf hgf; obtain ⟨c1, c2, c3, z1, z2, z3⟩ := tok_cells HG2.out; clear h2 f2)
          go_end0

          show NumPost b g s p l err a0 l0 w _ _
          rw [NumPost, if_neg (by rw [HDig.out]; omega), if_pos HV.out]
          refine ⟨rfl, ?_, vf, p + (2 + d), l + nls (s.extract p (p + (2 + d))).data.toList, ⟨gf, HVF.out, ?_⟩, ?_⟩
          · exact ((HF2.out.two g).trans ((((Fr.refl g _).set 0 _).set 4 _).set 3 _ |>.two' b))
          · exact blk_far (blk_far (blk_far HGF.out hgfne _) hgfne _) hgfne _
          · exact blk_far (blk_far (blk_far HB2.out (Ne.symm hgb) _) (Ne.symm hgb) _) (Ne.symm hgb) _

    · rw [if_neg hdq] at HI
      have hdle : d = q.size := by omega
      clear hqs hqd
      go_wp2_with fail
      refine HI.out.mono ?_
      rintro e W3 ⟨rfl, hb3⟩
      have HB3 := Aside0.mk (show LX W3 b true s p l err from blk_below HB2.out hb3)
      have HG3 := Aside0.mk (show TokB W3 g k0 a0 l0 t0 n0 from blk_below HG2.out hb3)
      have HC3 := Aside0.mk (blk_below HC2.out hb3)
      have HF3 := Aside0.mk (HF2.out.below hb3)
      clear hb3 HI
      have HL3 := Aside0.mk (HLw.out.keep (HF3.out.out.block _ (by omega) (fun e => by have := Option.some.inj e; omega)) (HF3.out.out.block _ (by omega) (fun e => by have := Option.some.inj e; omega)))
      have hds : q.size = d := hdle.symm
      have hdl : q.data.toList = ((s.data.toList.drop p).drop 2).take d := by rw [← HQL.out, List.take_of_length_le (by rw [hdle]; simp)]
      clear hdle
      go_upto_region 10 with (fail)
      obtain ⟨D, rfl⟩ : ∃ D, D = q := ⟨_, rfl⟩
      have HDL := Aside0.mk hdl
      clear hdl
      have HLenE := Aside0.mk (show nLen (s.data.toList.drop p) = 2 + d by unfold nLen; rw [HHD.out, HDig.out])
      have HNL := Aside0.mk (show (((p + nLen (s.data.toList.drop p)) : Nat) : Int) = ((p : Int) + 2 + (d : Int)) by rw [HLenE.out]; omega)
      have c1 : W3.cell? ⟨b, 260, none⟩ = some (.int .i64 p) := lx_at HB3.out 1
      by_cases hd0 : d = 0
      · have HDig0 := Aside0.mk (show nDig (s.data.toList.drop p) = 0 from HDig.out.trans hd0)
        have hemp : D.toList.isEmpty = true := by
          rw [← decide_eq_emptyBytes]
          exact decide_eq_true (by
            obtain ⟨⟨x⟩⟩ := D
            cases x with
            | nil => rfl
            | cons _ _ => simp [ByteArray.size] at hds; omega)
        clear hd0
        go_wp2_with fail
        refine (fail_any b true s p l err 7 _ _ (by exact HB3.out)).mono ?_
        rintro e Wf ⟨rfl, ff, vf, hfv, hLXf, gf, hgf, hvf⟩
        have HBf := Aside0.mk hLXf
        have HFf := Aside0.mk (HF3.out.step ff rfl rfl rfl rfl)
        have HFv := Aside0.mk hfv
        clear hfv hLXf hgf hvf ff
        go_wp2
        go_end0
        show NumPost b g s p l err a0 l0 w _ _
        rw [NumPost, if_pos HDig0.out]
        refine ⟨rfl, HFf.out.two g, _, _, _, ?_, HBf.out⟩
        rw [HNL.out]
        exact HFv.out
      · have hemp : D.toList.isEmpty = false := by
          rw [← decide_eq_emptyBytes]
          exact decide_eq_false (fun h => hd0 (by rw [← hds, h]; rfl))
        have HP3 := Aside0.mk (nParse (s.data.toList.drop p) D (by rw [HDL.out, HHD.out, HDig.out]) (by rw [hds]; exact hd0) (by omega) W3 HL3.out)
        rw [HBase.out] at HP3
        have b3 : W3.cell? ⟨w.heap.size, 0, none⟩ = some (.int .i64 16) := blk_cell HC3.out 0
        obtain ⟨v, hv⟩ : ∃ v, nVal (s.data.toList.drop p) = v := ⟨_, rfl⟩
        rw [hv] at HP3
        have HVal := Aside0.mk hv
        clear hv
        go_wp2_with fail
        refine HP3.out.mono ?_
        rintro e W4 ⟨hb4, ⟨hv, rfl⟩ | ⟨hv, n4, x4, rfl⟩⟩
        · have HB4 := Aside0.mk (show LX W4 b true s p l err from blk_below HB3.out hb4)
          have HG4 := Aside0.mk (show TokB W4 g k0 a0 l0 t0 n0 from blk_below HG3.out hb4)
          have HF4 := Aside0.mk (HF3.out.below hb4)
          clear hb4 HP3 c1 b3
          have c0 : W4.cell? ⟨b, 259, none⟩ = some (.string s) := lx_at HB4.out 0
          by_cases hv32 : 4294967296 ≤ v
          · have HV := Aside0.mk (show 4294967296 ≤ nVal (s.data.toList.drop p) from HVal.out ▸ hv32)
            have hge : decide ((4294967296 : Int) ≤ (v : Int)) = true := decide_eq_true (by omega)
            clear hv32
            go_wp2_with fail
            refine (fail_any b true s p l err 10 p _ (by exact HB4.out)).mono ?_
            rintro e Wf ⟨rfl, ff, vf, hfv, hLXf, gf, hgf, hvf⟩
            have HBf := Aside0.mk hLXf
            have HFf := Aside0.mk (HF4.out.step ff rfl rfl rfl rfl)
            have HGf := Aside0.mk (show TokB Wf g k0 a0 l0 t0 n0 from ff.blk (by exact HG4.out) hgb)
            have HFv := Aside0.mk hfv
            have hgsz : b < W4.heap.size ∧ g < W4.heap.size := ⟨blk_lt HB4.out, blk_lt HG4.out⟩
            have hgf' : W4.heap.size ≤ gf := hgf
            have HGf2 := Aside0.mk (show ∀ g2, vf = .iface 56 (.pointer (some ⟨g2, 0, none⟩)) → b < g2 from fun g2 e => by rw [hvf] at e; injection e with _ e; injection e with e; injection (Option.some.inj e) with e; omega)
            have HGf3 := Aside0.mk (show ∀ g2, vf = .iface 56 (.pointer (some ⟨g2, 0, none⟩)) → g2 ≠ g from fun g2 e => by rw [hvf] at e; injection e with _ e; injection e with e; injection (Option.some.inj e) with e; omega)
            clear hfv hLXf hgf hvf ff hgf' hgsz

            go_wp2_with (go_at_call 55; refine (take_int b true s p l (2 + d) _ _ _ (by omega) HBf.out (by omega) hs (by omega)).mono ?_; rintro e w2 ⟨rfl, h2, f2⟩; have HB2 := Aside0.mk h2; have HF2 := Aside0.mk (HFf.out.trans f2); have HG2 := Aside0.mk (show TokB w2 g k0 a0 l0 t0 n0 from f2.blk HGf.out hgb); obtain ⟨gf, hvf, hgf⟩ := HFv.out; have HGF := Aside0.mk (f2.blk hgf (fun e => by have := HGf2.out gf hvf; omega)); have hgfne := HGf3.out gf hvf; have HVF := Aside0.mk hvf; clear hvf hgf; obtain ⟨c1, c2, c3, z1, z2, z3⟩ := tok_cells HG2.out; clear h2 f2)
            go_end0

            show NumPost b g s p l err a0 l0 w _ _
            rw [NumPost, if_neg (by rw [HDig.out]; omega), if_pos HV.out]
            refine ⟨rfl, ?_, vf, p + (2 + d), l + nls (s.extract p (p + (2 + d))).data.toList, ⟨gf, HVF.out, ?_⟩, ?_⟩
            · exact ((HF2.out.two g).trans ((((Fr.refl g _).set 0 _).set 4 _).set 3 _ |>.two' b))
            · exact blk_far (blk_far (blk_far HGF.out hgfne _) hgfne _) hgfne _
            · exact blk_far (blk_far (blk_far HB2.out (Ne.symm hgb) _) (Ne.symm hgb) _) (Ne.symm hgb) _

          · have HV := Aside0.mk (show ¬ 4294967296 ≤ nVal (s.data.toList.drop p) from HVal.out ▸ hv32)
            have hge : decide ((4294967296 : Int) ≤ (v : Int)) = false := decide_eq_false (by omega)
            have HV32 := Aside0.mk hv32
            clear hv32
            obtain ⟨NE, hNE⟩ : ∃ NE, p + (2 + d) = NE := ⟨_, rfl⟩
            have ht : (((p : Int) + 2 + (d : Int))).toNat = NE := by omega
            have y0 : (0 : Int) ≤ ((p : Int) + 2 + (d : Int)) := by omega
            have HNE := Aside0.mk hNE
            by_cases hlt : NE < s.size
            · have y1 : ((p : Int) + 2 + (d : Int)) < (s.size : Int) := by omega
              have y2 : decide (((p : Int) + 2 + (d : Int)) < (s.size : Int)) = true := decide_eq_true y1
              obtain ⟨c, hc⟩ : ∃ c : Nat, (s[NE]'hlt).toNat = c := ⟨_, rfl⟩
              have hcn : c < 256 := by rw [← hc]; exact (s[NE]'hlt).toNat_lt
              have hidx : ∀ h : NE < s.size, (s[NE]'h).toNat = c := fun _ => hc
              have htl : nTail (s.data.toList.drop p) = hasS c 6 := by
                unfold nTail
                rw [HLenE.out, List.getElem?_drop, HNE.out, List.getElem?_eq_getElem (by simpa using hlt)]
                show hasS (((s[NE]'hlt).toNat : Nat) : Int) 6 = _
                rw [hc]
              clear hc hNE
              cases hh : hasS c 6 with
              | true =>
                have HTail := Aside0.mk (show nTail (s.data.toList.drop p) = true from htl.trans hh)
                have HCon := Aside0.mk (show ∀ W, LX W b true s p l err → Calls Tryz.prog 38 #[.pointer (some ⟨b, 0, none⟩), .int .u8 c, .int .u8 6] W fun e w' => e = .returned (.bool true) ∧ LX w' b true s p l err ∧ Fr b W w' from
                  fun W h => hh ▸ is_any b true _ c 6 W h (by omega) (by omega))
                clear hh htl
                go_wp2
                go_still_tail 17, (by kernel_rfl)
                go_wp2_with (go_at_call 38; refine (HCon.out _ (by exact HB4.out)).mono ?_; rintro e W5 ⟨rfl, h5, f5⟩; have HB5 := Aside0.mk h5; have HF5 := Aside0.mk (HF4.out.step f5 rfl rfl rfl rfl); have HG5 := Aside0.mk (show TokB W5 g k0 a0 l0 t0 n0 from f5.blk (by exact HG4.out) hgb); clear h5 f5)
                clear HB4 HF4 HG4 ht y0 y1 y2 hidx
                obtain ⟨W4, rfl⟩ : ∃ W4, W4 = W5 := ⟨_, rfl⟩
                have HB4 := HB5
                have HF4 := HF5
                have HG4 := HG5
                refine (fail_any b true s p l err 7 _ _ (by exact HB4.out)).mono ?_
                rintro e Wf ⟨rfl, ff, vf, hfv, hLXf, gf, hgf, hvf⟩
                have HBf := Aside0.mk hLXf
                have HFf := Aside0.mk (HF4.out.step ff rfl rfl rfl rfl)
                have HGf := Aside0.mk (show TokB Wf g k0 a0 l0 t0 n0 from ff.blk (by exact HG4.out) hgb)
                have HFv := Aside0.mk hfv
                have hgsz : b < W4.heap.size ∧ g < W4.heap.size := ⟨blk_lt HB4.out, blk_lt HG4.out⟩
                have hgf' : W4.heap.size ≤ gf := hgf
                have HGf2 := Aside0.mk (show ∀ g2, vf = .iface 56 (.pointer (some ⟨g2, 0, none⟩)) → b < g2 from fun g2 e => by rw [hvf] at e; injection e with _ e; injection e with e; injection (Option.some.inj e) with e; omega)
                have HGf3 := Aside0.mk (show ∀ g2, vf = .iface 56 (.pointer (some ⟨g2, 0, none⟩)) → g2 ≠ g from fun g2 e => by rw [hvf] at e; injection e with _ e; injection e with e; injection (Option.some.inj e) with e; omega)
                clear hfv hLXf hgf hvf ff hgf' hgsz

                go_wp2_with (go_at_call 55; refine (take_int b true s p l (2 + d) _ _ _ (by omega) HBf.out (by omega) hs (by omega)).mono ?_; rintro e w2 ⟨rfl, h2, f2⟩; have HB2 := Aside0.mk h2; have HF2 := Aside0.mk (HFf.out.trans f2); have HG2 := Aside0.mk (show TokB w2 g k0 a0 l0 t0 n0 from f2.blk HGf.out hgb); obtain ⟨gf, hvf, hgf⟩ := HFv.out; have HGF := Aside0.mk (f2.blk hgf (fun e => by have := HGf2.out gf hvf; omega)); have hgfne := HGf3.out gf hvf; have HVF := Aside0.mk hvf; clear hvf hgf; obtain ⟨c1, c2, c3, z1, z2, z3⟩ := tok_cells HG2.out; clear h2 f2)
                go_end0

                show NumPost b g s p l err a0 l0 w _ _
                rw [NumPost, if_neg (by rw [HDig.out]; omega), if_neg (by have := HV.out; omega), if_pos HTail.out, HNL.out]
                refine ⟨rfl, ?_, vf, p + (2 + d), l + nls (s.extract p (p + (2 + d))).data.toList, ⟨gf, HVF.out, ?_⟩, ?_⟩
                · exact ((HF2.out.two g).trans ((((Fr.refl g _).set 0 _).set 4 _).set 3 _ |>.two' b))
                · exact blk_far (blk_far (blk_far HGF.out hgfne _) hgfne _) hgfne _
                · exact blk_far (blk_far (blk_far HB2.out (Ne.symm hgb) _) (Ne.symm hgb) _) (Ne.symm hgb) _

              | false =>
                have HTail := Aside0.mk (show nTail (s.data.toList.drop p) = false from htl.trans hh)
                have HCon := Aside0.mk (show ∀ W, LX W b true s p l err → Calls Tryz.prog 38 #[.pointer (some ⟨b, 0, none⟩), .int .u8 c, .int .u8 6] W fun e w' => e = .returned (.bool false) ∧ LX w' b true s p l err ∧ Fr b W w' from
                  fun W h => hh ▸ is_any b true _ c 6 W h (by omega) (by omega))
                clear hh htl
                go_wp2
                go_still_tail 17, (by kernel_rfl)
                go_wp2_with (go_at_call 38; refine (HCon.out _ (by exact HB4.out)).mono ?_; rintro e W5 ⟨rfl, h5, f5⟩; have HBf := Aside0.mk h5; have HFf := Aside0.mk (HF4.out.step f5 rfl rfl rfl rfl); have HGf := Aside0.mk (show TokB W5 g k0 a0 l0 t0 n0 from f5.blk (by exact HG4.out) hgb); clear h5 f5)
                clear HB4 HF4 HG4 ht y0 y1 y2 hidx
                go_wp2_with (go_at_call 55; refine (take_int b true s p l (2 + d) _ _ _ (by omega) HBf.out (by omega) hs (by omega)).mono ?_; rintro e w2 ⟨rfl, h2, f2⟩; have HB2 := Aside0.mk h2; have HF2 := Aside0.mk (HFf.out.trans f2); have HG2 := Aside0.mk (show TokB w2 g k0 a0 l0 t0 n0 from f2.blk HGf.out hgb); obtain ⟨c1, c2, c3, z1, z2, z3⟩ := tok_cells HG2.out; clear h2 f2)
                go_end0

                show NumPost b g s p l err a0 l0 w _ _
                rw [NumPost, if_neg (by rw [HDig.out]; omega), if_neg (by have := HV.out; omega), if_neg (by rw [HTail.out]; decide), HLenE.out, HVal.out]
                have hw : wrap64 (v : Int) = (v : Int) := by have := HV32.out; unfold wrap64; omega
                rw [hw]
                refine ⟨rfl, ?_, ?_, ?_⟩
                · exact ((HF2.out.two g).trans ((((Fr.refl g _).set 0 _).set 4 _).set 3 _ |>.two' b))
                · exact blk_far (blk_far (blk_far HB2.out (Ne.symm hgb) _) (Ne.symm hgb) _) (Ne.symm hgb) _
                · exact blk_set (blk_set (blk_set HG2.out 0 _) 4 _) 3 _

            · have y1 : ¬ ((p : Int) + 2 + (d : Int)) < (s.size : Int) := by omega
              have y2 : decide (((p : Int) + 2 + (d : Int)) < (s.size : Int)) = false := decide_eq_false y1
              have HTail := Aside0.mk (show nTail (s.data.toList.drop p) = false by
                unfold nTail
                rw [HLenE.out, List.getElem?_drop, HNE.out, List.getElem?_eq_none (by simpa using hlt)])
              clear hNE ht
              go_wp2
              go_quiet (fail)
              have HBf := Aside0.mk (show LX (W4.drewN nq) b true s p l err from HB4.out)
              have HFf := Aside0.mk (HF4.out.drewN nq)
              have HGf := Aside0.mk (show TokB (W4.drewN nq) g k0 a0 l0 t0 n0 from HG4.out)
              generalize W4.drewN nq = W5 at *
              clear HB4 HF4 HG4 y0 y1 y2 c0
              go_wp2_with (go_at_call 55; refine (take_int b true s p l (2 + d) _ _ _ (by omega) HBf.out (by omega) hs (by omega)).mono ?_; rintro e w2 ⟨rfl, h2, f2⟩; have HB2 := Aside0.mk h2; have HF2 := Aside0.mk (HFf.out.trans f2); have HG2 := Aside0.mk (show TokB w2 g k0 a0 l0 t0 n0 from f2.blk HGf.out hgb); obtain ⟨c1, c2, c3, z1, z2, z3⟩ := tok_cells HG2.out; clear h2 f2)
              go_end0

              show NumPost b g s p l err a0 l0 w _ _
              rw [NumPost, if_neg (by rw [HDig.out]; omega), if_neg (by have := HV.out; omega), if_neg (by rw [HTail.out]; decide), HLenE.out, HVal.out]
              have hw : wrap64 (v : Int) = (v : Int) := by have := HV32.out; unfold wrap64; omega
              rw [hw]
              refine ⟨rfl, ?_, ?_, ?_⟩
              · exact ((HF2.out.two g).trans ((((Fr.refl g _).set 0 _).set 4 _).set 3 _ |>.two' b))
              · exact blk_far (blk_far (blk_far HB2.out (Ne.symm hgb) _) (Ne.symm hgb) _) (Ne.symm hgb) _
              · exact blk_set (blk_set (blk_set HG2.out 0 _) 4 _) 3 _

        · have HB4 := Aside0.mk (show LX W4 b true s p l err from blk_below HB3.out hb4)
          have HG4 := Aside0.mk (show TokB W4 g k0 a0 l0 t0 n0 from blk_below HG3.out hb4)
          have HF4 := Aside0.mk (HF3.out.below hb4)
          clear hb4 HP3 c1 b3
          have HV := Aside0.mk (show 4294967296 ≤ nVal (s.data.toList.drop p) by rw [HVal.out]; omega)
          clear hv
          go_wp2_with fail
          refine (fail_any b true s p l err 10 p _ (by exact HB4.out)).mono ?_
          rintro e Wf ⟨rfl, ff, vf, hfv, hLXf, gf, hgf, hvf⟩
          have HBf := Aside0.mk hLXf
          have HFf := Aside0.mk (HF4.out.step ff rfl rfl rfl rfl)
          have HGf := Aside0.mk (show TokB Wf g k0 a0 l0 t0 n0 from ff.blk (by exact HG4.out) hgb)
          have HFv := Aside0.mk hfv
          have hgsz : b < W4.heap.size ∧ g < W4.heap.size := ⟨blk_lt HB4.out, blk_lt HG4.out⟩
          have hgf' : W4.heap.size ≤ gf := hgf
          have HGf2 := Aside0.mk (show ∀ g2, vf = .iface 56 (.pointer (some ⟨g2, 0, none⟩)) → b < g2 from fun g2 e => by rw [hvf] at e; injection e with _ e; injection e with e; injection (Option.some.inj e) with e; omega)
          have HGf3 := Aside0.mk (show ∀ g2, vf = .iface 56 (.pointer (some ⟨g2, 0, none⟩)) → g2 ≠ g from fun g2 e => by rw [hvf] at e; injection e with _ e; injection e with e; injection (Option.some.inj e) with e; omega)
          clear hfv hLXf hgf hvf ff hgf' hgsz

          go_wp2_with (go_at_call 55; refine (take_int b true s p l (2 + d) _ _ _ (by omega) HBf.out (by omega) hs (by omega)).mono ?_; rintro e w2 ⟨rfl, h2, f2⟩; have HB2 := Aside0.mk h2; have HF2 := Aside0.mk (HFf.out.trans f2); have HG2 := Aside0.mk (show TokB w2 g k0 a0 l0 t0 n0 from f2.blk HGf.out hgb); obtain ⟨gf, hvf, hgf⟩ := HFv.out; have HGF := Aside0.mk (f2.blk hgf (fun e => by have := HGf2.out gf hvf; omega)); have hgfne := HGf3.out gf hvf; have HVF := Aside0.mk hvf; clear hvf hgf; obtain ⟨c1, c2, c3, z1, z2, z3⟩ := tok_cells HG2.out; clear h2 f2)
          go_end0

          show NumPost b g s p l err a0 l0 w _ _
          rw [NumPost, if_neg (by rw [HDig.out]; omega), if_pos HV.out]
          refine ⟨rfl, ?_, vf, p + (2 + d), l + nls (s.extract p (p + (2 + d))).data.toList, ⟨gf, HVF.out, ?_⟩, ?_⟩
          · exact ((HF2.out.two g).trans ((((Fr.refl g _).set 0 _).set 4 _).set 3 _ |>.two' b))
          · exact blk_far (blk_far (blk_far HGF.out hgfne _) hgfne _) hgfne _
          · exact blk_far (blk_far (blk_far HB2.out (Ne.symm hgb) _) (Ne.symm hgb) _) (Ne.symm hgb) _
  | false =>
    have hh0 : nHead (s.data.toList.drop p) = 0 := by unfold nHead; rw [hx]; rfl
    have HBase := Aside0.mk (show nBase (s.data.toList.drop p) = 10 by unfold nBase; rw [hx]; rfl)
    rw [hh0] at hhead
    have HHD := Aside0.mk hh0
    have hln0 := HLEN.out
    rw [hh0] at hln0
    have HP := Aside0.mk (show ∀ w, Calls Tryz.prog 34 #[.string (s.extract p s.size), .string ⟨#[48, 120]⟩] w fun e w' => e = .returned (.bool false) ∧ w = w' from fun w => hasPrefix_any _ _ false w (by rw [extract_list]; exact hx))
    clear hx hh0
    go_enter Tryz.func40, Tryz.ntmps40
    go_wp2
    go_quiet ((go_at_call 34; exact Calls.quiet_of_same ((HP.out _).mono fun _ _ h => ⟨h.1, h.2.symm⟩)))
    clear c0 c1 hc0 hc1 HP

    have HB1 := Aside0.mk (show LX ((w.alloc (.cells #[.int .i64 10] 3)).drewN nq) b true s p l err from HB.out)
    have HG1 := Aside0.mk (show TokB ((w.alloc (.cells #[.int .i64 10] 3)).drewN nq) g k0 a0 l0 t0 n0 from HG.out)
    have HF1 := Aside0.mk (HF.out.drewN nq)
    have HC1 := Aside0.mk (show ((w.alloc (.cells #[.int .i64 10] 3)).drewN nq).heap[w.heap.size]? = some (.cells #[.int .i64 10] 3 (0, 0)) from HC.out)
    go_upto_region 4 with (fail)
    clear HB HG HF HC
    generalize (w.alloc (.cells #[.int .i64 10] 3)).drewN nq = W1 at *
    have c0 : W1.cell? ⟨b, 259, none⟩ = some (.string s) := lx_at HB1.out 0
    have c1 : W1.cell? ⟨b, 260, none⟩ = some (.int .i64 p) := lx_at HB1.out 1
    go_wp2
    go_quiet (fail)
    have HB2 := Aside0.mk (show LX (W1.drewN nq) b true s p l err from HB1.out)
    have HG2 := Aside0.mk (show TokB (W1.drewN nq) g k0 a0 l0 t0 n0 from HG1.out)
    have HF2 := Aside0.mk (HF1.out.drewN nq)
    have HC2 := Aside0.mk (show (W1.drewN nq).heap[w.heap.size]? = some (.cells #[.int .i64 10] 3 (0, 0)) from HC1.out)
    clear c0 c1
    generalize W1.drewN nq = W2 at *
    have hql : (s.extract p s.size).data.toList = (s.data.toList.drop p).drop 0 := by rw [extract_list, List.drop_drop] <;> rfl
    have hqs : (s.extract p s.size).size = s.size - p := by simp
    obtain ⟨q, hq⟩ : ∃ q, s.extract p s.size = q := ⟨_, rfl⟩
    rw [hq] at hql hqs
    rw [hq]
    have HQL := Aside0.mk hql
    clear hq hql
    have HI := Aside0.mk (index_any 10 (by decide) w.heap.size q W2 (blk_cell HC2.out 0))
    have hdd : digN 10 q.data.toList = d := by
      rw [HQL.out, ← HDig.out, nDig, HBase.out, HHD.out]; rfl
    rw [hdd] at HI
    clear hdd
    have hqd : d < q.size ∨ d = q.size := by omega
    by_cases hdq : d < q.size
    · rw [if_pos hdq] at HI
      go_wp2_with fail
      refine HI.out.mono ?_
      rintro e W3 ⟨rfl, hb3⟩
      have HB3 := Aside0.mk (show LX W3 b true s p l err from blk_below HB2.out hb3)
      have HG3 := Aside0.mk (show TokB W3 g k0 a0 l0 t0 n0 from blk_below HG2.out hb3)
      have HC3 := Aside0.mk (blk_below HC2.out hb3)
      have HF3 := Aside0.mk (HF2.out.below hb3)
      clear hb3 HI
      have HL3 := Aside0.mk (HLw.out.keep (HF3.out.out.block _ (by omega) (fun e => by have := Option.some.inj e; omega)) (HF3.out.out.block _ (by omega) (fun e => by have := Option.some.inj e; omega)))
      have hds : (q.extract 0 d).size = d := by simp; omega
      clear hqs hqd
      have hdl : (q.extract 0 d).data.toList = ((s.data.toList.drop p).drop 0).take d := by rw [← HQL.out]; simp
      go_upto_region 10 with (fail)
      obtain ⟨D, hD⟩ : ∃ D, q.extract 0 d = D := ⟨_, rfl⟩
      rw [hD] at hds hdl
      rw [hD]
      have HDL := Aside0.mk hdl
      clear hD hdl
      have HLenE := Aside0.mk (show nLen (s.data.toList.drop p) = d by unfold nLen; rw [HHD.out, HDig.out]; exact Nat.zero_add d)
      have HNL := Aside0.mk (show (((p + nLen (s.data.toList.drop p)) : Nat) : Int) = ((p : Int) + (d : Int)) by rw [HLenE.out]; omega)
      have c1 : W3.cell? ⟨b, 260, none⟩ = some (.int .i64 p) := lx_at HB3.out 1
      by_cases hd0 : d = 0
      · have HDig0 := Aside0.mk (show nDig (s.data.toList.drop p) = 0 from HDig.out.trans hd0)
        have hemp : D.toList.isEmpty = true := by
          rw [← decide_eq_emptyBytes]
          exact decide_eq_true (by
            obtain ⟨⟨x⟩⟩ := D
            cases x with
            | nil => rfl
            | cons _ _ => simp [ByteArray.size] at hds; omega)
        clear hd0
        go_wp2_with fail
        refine (fail_any b true s p l err 7 _ _ (by exact HB3.out)).mono ?_
        rintro e Wf ⟨rfl, ff, vf, hfv, hLXf, gf, hgf, hvf⟩
        have HBf := Aside0.mk hLXf
        have HFf := Aside0.mk (HF3.out.step ff rfl rfl rfl rfl)
        have HFv := Aside0.mk hfv
        clear hfv hLXf hgf hvf ff
        go_wp2
        go_end0
        show NumPost b g s p l err a0 l0 w _ _
        rw [NumPost, if_pos HDig0.out]
        refine ⟨rfl, HFf.out.two g, _, _, _, ?_, HBf.out⟩
        rw [HNL.out]
        exact HFv.out
      · have hemp : D.toList.isEmpty = false := by
          rw [← decide_eq_emptyBytes]
          exact decide_eq_false (fun h => hd0 (by rw [← hds, h]; rfl))
        have HP3 := Aside0.mk (nParse (s.data.toList.drop p) D (by rw [HDL.out, HHD.out, HDig.out]) (by rw [hds]; exact hd0) (by omega) W3 HL3.out)
        rw [HBase.out] at HP3
        have b3 : W3.cell? ⟨w.heap.size, 0, none⟩ = some (.int .i64 10) := blk_cell HC3.out 0
        obtain ⟨v, hv⟩ : ∃ v, nVal (s.data.toList.drop p) = v := ⟨_, rfl⟩
        rw [hv] at HP3
        have HVal := Aside0.mk hv
        clear hv
        go_wp2_with fail
        refine HP3.out.mono ?_
        rintro e W4 ⟨hb4, ⟨hv, rfl⟩ | ⟨hv, n4, x4, rfl⟩⟩
        · have HB4 := Aside0.mk (show LX W4 b true s p l err from blk_below HB3.out hb4)
          have HG4 := Aside0.mk (show TokB W4 g k0 a0 l0 t0 n0 from blk_below HG3.out hb4)
          have HF4 := Aside0.mk (HF3.out.below hb4)
          clear hb4 HP3 c1 b3
          have c0 : W4.cell? ⟨b, 259, none⟩ = some (.string s) := lx_at HB4.out 0
          by_cases hv32 : 4294967296 ≤ v
          · have HV := Aside0.mk (show 4294967296 ≤ nVal (s.data.toList.drop p) from HVal.out ▸ hv32)
            have hge : decide ((4294967296 : Int) ≤ (v : Int)) = true := decide_eq_true (by omega)
            clear hv32
            go_wp2_with fail
            refine (fail_any b true s p l err 10 p _ (by exact HB4.out)).mono ?_
            rintro e Wf ⟨rfl, ff, vf, hfv, hLXf, gf, hgf, hvf⟩
            have HBf := Aside0.mk hLXf
            have HFf := Aside0.mk (HF4.out.step ff rfl rfl rfl rfl)
            have HGf := Aside0.mk (show TokB Wf g k0 a0 l0 t0 n0 from ff.blk (by exact HG4.out) hgb)
            have HFv := Aside0.mk hfv
            have hgsz : b < W4.heap.size ∧ g < W4.heap.size := ⟨blk_lt HB4.out, blk_lt HG4.out⟩
            have hgf' : W4.heap.size ≤ gf := hgf
            have HGf2 := Aside0.mk (show ∀ g2, vf = .iface 56 (.pointer (some ⟨g2, 0, none⟩)) → b < g2 from fun g2 e => by rw [hvf] at e; injection e with _ e; injection e with e; injection (Option.some.inj e) with e; omega)
            have HGf3 := Aside0.mk (show ∀ g2, vf = .iface 56 (.pointer (some ⟨g2, 0, none⟩)) → g2 ≠ g from fun g2 e => by rw [hvf] at e; injection e with _ e; injection e with e; injection (Option.some.inj e) with e; omega)
            clear hfv hLXf hgf hvf ff hgf' hgsz

            go_wp2_with (go_at_call 55; refine (take_int b true s p l (d) _ _ _ (by omega) HBf.out (by omega) hs (by omega)).mono ?_; rintro e w2 ⟨rfl, h2, f2⟩; have HB2 := Aside0.mk h2; have HF2 := Aside0.mk (HFf.out.trans f2); have HG2 := Aside0.mk (show TokB w2 g k0 a0 l0 t0 n0 from f2.blk HGf.out hgb); obtain ⟨gf, hvf, hgf⟩ := HFv.out; have HGF := Aside0.mk (f2.blk hgf (fun e => by have := HGf2.out gf hvf; omega)); have hgfne := HGf3.out gf hvf; have HVF := Aside0.mk hvf; clear hvf hgf; obtain ⟨c1, c2, c3, z1, z2, z3⟩ := tok_cells HG2.out; clear h2 f2)
            go_end0

            show NumPost b g s p l err a0 l0 w _ _
            rw [NumPost, if_neg (by rw [HDig.out]; omega), if_pos HV.out]
            refine ⟨rfl, ?_, vf, p + (d), l + nls (s.extract p (p + (d))).data.toList, ⟨gf, HVF.out, ?_⟩, ?_⟩
            · exact ((HF2.out.two g).trans ((((Fr.refl g _).set 0 _).set 4 _).set 3 _ |>.two' b))
            · exact blk_far (blk_far (blk_far HGF.out hgfne _) hgfne _) hgfne _
            · exact blk_far (blk_far (blk_far HB2.out (Ne.symm hgb) _) (Ne.symm hgb) _) (Ne.symm hgb) _

          · have HV := Aside0.mk (show ¬ 4294967296 ≤ nVal (s.data.toList.drop p) from HVal.out ▸ hv32)
            have hge : decide ((4294967296 : Int) ≤ (v : Int)) = false := decide_eq_false (by omega)
            have HV32 := Aside0.mk hv32
            clear hv32
            obtain ⟨NE, hNE⟩ : ∃ NE, p + (d) = NE := ⟨_, rfl⟩
            have ht : (((p : Int) + (d : Int))).toNat = NE := by omega
            have y0 : (0 : Int) ≤ ((p : Int) + (d : Int)) := by omega
            have HNE := Aside0.mk hNE
            by_cases hlt : NE < s.size
            · have y1 : ((p : Int) + (d : Int)) < (s.size : Int) := by omega
              have y2 : decide (((p : Int) + (d : Int)) < (s.size : Int)) = true := decide_eq_true y1
              obtain ⟨c, hc⟩ : ∃ c : Nat, (s[NE]'hlt).toNat = c := ⟨_, rfl⟩
              have hcn : c < 256 := by rw [← hc]; exact (s[NE]'hlt).toNat_lt
              have hidx : ∀ h : NE < s.size, (s[NE]'h).toNat = c := fun _ => hc
              have htl : nTail (s.data.toList.drop p) = hasS c 6 := by
                unfold nTail
                rw [HLenE.out, List.getElem?_drop, HNE.out, List.getElem?_eq_getElem (by simpa using hlt)]
                show hasS (((s[NE]'hlt).toNat : Nat) : Int) 6 = _
                rw [hc]
              clear hc hNE
              cases hh : hasS c 6 with
              | true =>
                have HTail := Aside0.mk (show nTail (s.data.toList.drop p) = true from htl.trans hh)
                have HCon := Aside0.mk (show ∀ W, LX W b true s p l err → Calls Tryz.prog 38 #[.pointer (some ⟨b, 0, none⟩), .int .u8 c, .int .u8 6] W fun e w' => e = .returned (.bool true) ∧ LX w' b true s p l err ∧ Fr b W w' from
                  fun W h => hh ▸ is_any b true _ c 6 W h (by omega) (by omega))
                clear hh htl
                go_wp2
                go_still_tail 17, (by kernel_rfl)
                go_wp2_with (go_at_call 38; refine (HCon.out _ (by exact HB4.out)).mono ?_; rintro e W5 ⟨rfl, h5, f5⟩; have HB5 := Aside0.mk h5; have HF5 := Aside0.mk (HF4.out.step f5 rfl rfl rfl rfl); have HG5 := Aside0.mk (show TokB W5 g k0 a0 l0 t0 n0 from f5.blk (by exact HG4.out) hgb); clear h5 f5)
                clear HB4 HF4 HG4 ht y0 y1 y2 hidx
                obtain ⟨W4, rfl⟩ : ∃ W4, W4 = W5 := ⟨_, rfl⟩
                have HB4 := HB5
                have HF4 := HF5
                have HG4 := HG5
                refine (fail_any b true s p l err 7 _ _ (by exact HB4.out)).mono ?_
                rintro e Wf ⟨rfl, ff, vf, hfv, hLXf, gf, hgf, hvf⟩
                have HBf := Aside0.mk hLXf
                have HFf := Aside0.mk (HF4.out.step ff rfl rfl rfl rfl)
                have HGf := Aside0.mk (show TokB Wf g k0 a0 l0 t0 n0 from ff.blk (by exact HG4.out) hgb)
                have HFv := Aside0.mk hfv
                have hgsz : b < W4.heap.size ∧ g < W4.heap.size := ⟨blk_lt HB4.out, blk_lt HG4.out⟩
                have hgf' : W4.heap.size ≤ gf := hgf
                have HGf2 := Aside0.mk (show ∀ g2, vf = .iface 56 (.pointer (some ⟨g2, 0, none⟩)) → b < g2 from fun g2 e => by rw [hvf] at e; injection e with _ e; injection e with e; injection (Option.some.inj e) with e; omega)
                have HGf3 := Aside0.mk (show ∀ g2, vf = .iface 56 (.pointer (some ⟨g2, 0, none⟩)) → g2 ≠ g from fun g2 e => by rw [hvf] at e; injection e with _ e; injection e with e; injection (Option.some.inj e) with e; omega)
                clear hfv hLXf hgf hvf ff hgf' hgsz

                go_wp2_with (go_at_call 55; refine (take_int b true s p l (d) _ _ _ (by omega) HBf.out (by omega) hs (by omega)).mono ?_; rintro e w2 ⟨rfl, h2, f2⟩; have HB2 := Aside0.mk h2; have HF2 := Aside0.mk (HFf.out.trans f2); have HG2 := Aside0.mk (show TokB w2 g k0 a0 l0 t0 n0 from f2.blk HGf.out hgb); obtain ⟨gf, hvf, hgf⟩ := HFv.out; have HGF := Aside0.mk (f2.blk hgf (fun e => by have := HGf2.out gf hvf; omega)); have hgfne := HGf3.out gf hvf; have HVF := Aside0.mk hvf; clear hvf hgf; obtain ⟨c1, c2, c3, z1, z2, z3⟩ := tok_cells HG2.out; clear h2 f2)
                go_end0

                show NumPost b g s p l err a0 l0 w _ _
                rw [NumPost, if_neg (by rw [HDig.out]; omega), if_neg (by have := HV.out; omega), if_pos HTail.out, HNL.out]
                refine ⟨rfl, ?_, vf, p + (d), l + nls (s.extract p (p + (d))).data.toList, ⟨gf, HVF.out, ?_⟩, ?_⟩
                · exact ((HF2.out.two g).trans ((((Fr.refl g _).set 0 _).set 4 _).set 3 _ |>.two' b))
                · exact blk_far (blk_far (blk_far HGF.out hgfne _) hgfne _) hgfne _
                · exact blk_far (blk_far (blk_far HB2.out (Ne.symm hgb) _) (Ne.symm hgb) _) (Ne.symm hgb) _

              | false =>
                have HTail := Aside0.mk (show nTail (s.data.toList.drop p) = false from htl.trans hh)
                have HCon := Aside0.mk (show ∀ W, LX W b true s p l err → Calls Tryz.prog 38 #[.pointer (some ⟨b, 0, none⟩), .int .u8 c, .int .u8 6] W fun e w' => e = .returned (.bool false) ∧ LX w' b true s p l err ∧ Fr b W w' from
                  fun W h => hh ▸ is_any b true _ c 6 W h (by omega) (by omega))
                clear hh htl
                go_wp2
                go_still_tail 17, (by kernel_rfl)
                go_wp2_with (go_at_call 38; refine (HCon.out _ (by exact HB4.out)).mono ?_; rintro e W5 ⟨rfl, h5, f5⟩; have HBf := Aside0.mk h5; have HFf := Aside0.mk (HF4.out.step f5 rfl rfl rfl rfl); have HGf := Aside0.mk (show TokB W5 g k0 a0 l0 t0 n0 from f5.blk (by exact HG4.out) hgb); clear h5 f5)
                clear HB4 HF4 HG4 ht y0 y1 y2 hidx
                go_wp2_with (go_at_call 55; refine (take_int b true s p l (d) _ _ _ (by omega) HBf.out (by omega) hs (by omega)).mono ?_; rintro e w2 ⟨rfl, h2, f2⟩; have HB2 := Aside0.mk h2; have HF2 := Aside0.mk (HFf.out.trans f2); have HG2 := Aside0.mk (show TokB w2 g k0 a0 l0 t0 n0 from f2.blk HGf.out hgb); obtain ⟨c1, c2, c3, z1, z2, z3⟩ := tok_cells HG2.out; clear h2 f2)
                go_end0

                show NumPost b g s p l err a0 l0 w _ _
                rw [NumPost, if_neg (by rw [HDig.out]; omega), if_neg (by have := HV.out; omega), if_neg (by rw [HTail.out]; decide), HLenE.out, HVal.out]
                have hw : wrap64 (v : Int) = (v : Int) := by have := HV32.out; unfold wrap64; omega
                rw [hw]
                refine ⟨rfl, ?_, ?_, ?_⟩
                · exact ((HF2.out.two g).trans ((((Fr.refl g _).set 0 _).set 4 _).set 3 _ |>.two' b))
                · exact blk_far (blk_far (blk_far HB2.out (Ne.symm hgb) _) (Ne.symm hgb) _) (Ne.symm hgb) _
                · exact blk_set (blk_set (blk_set HG2.out 0 _) 4 _) 3 _

            · have y1 : ¬ ((p : Int) + (d : Int)) < (s.size : Int) := by omega
              have y2 : decide (((p : Int) + (d : Int)) < (s.size : Int)) = false := decide_eq_false y1
              have HTail := Aside0.mk (show nTail (s.data.toList.drop p) = false by
                unfold nTail
                rw [HLenE.out, List.getElem?_drop, HNE.out, List.getElem?_eq_none (by simpa using hlt)])
              clear hNE ht
              go_wp2
              go_quiet (fail)
              have HBf := Aside0.mk (show LX (W4.drewN nq) b true s p l err from HB4.out)
              have HFf := Aside0.mk (HF4.out.drewN nq)
              have HGf := Aside0.mk (show TokB (W4.drewN nq) g k0 a0 l0 t0 n0 from HG4.out)
              generalize W4.drewN nq = W5 at *
              clear HB4 HF4 HG4 y0 y1 y2 c0
              go_wp2_with (go_at_call 55; refine (take_int b true s p l (d) _ _ _ (by omega) HBf.out (by omega) hs (by omega)).mono ?_; rintro e w2 ⟨rfl, h2, f2⟩; have HB2 := Aside0.mk h2; have HF2 := Aside0.mk (HFf.out.trans f2); have HG2 := Aside0.mk (show TokB w2 g k0 a0 l0 t0 n0 from f2.blk HGf.out hgb); obtain ⟨c1, c2, c3, z1, z2, z3⟩ := tok_cells HG2.out; clear h2 f2)
              go_end0

              show NumPost b g s p l err a0 l0 w _ _
              rw [NumPost, if_neg (by rw [HDig.out]; omega), if_neg (by have := HV.out; omega), if_neg (by rw [HTail.out]; decide), HLenE.out, HVal.out]
              have hw : wrap64 (v : Int) = (v : Int) := by have := HV32.out; unfold wrap64; omega
              rw [hw]
              refine ⟨rfl, ?_, ?_, ?_⟩
              · exact ((HF2.out.two g).trans ((((Fr.refl g _).set 0 _).set 4 _).set 3 _ |>.two' b))
              · exact blk_far (blk_far (blk_far HB2.out (Ne.symm hgb) _) (Ne.symm hgb) _) (Ne.symm hgb) _
              · exact blk_set (blk_set (blk_set HG2.out 0 _) 4 _) 3 _

        · have HB4 := Aside0.mk (show LX W4 b true s p l err from blk_below HB3.out hb4)
          have HG4 := Aside0.mk (show TokB W4 g k0 a0 l0 t0 n0 from blk_below HG3.out hb4)
          have HF4 := Aside0.mk (HF3.out.below hb4)
          clear hb4 HP3 c1 b3
          have HV := Aside0.mk (show 4294967296 ≤ nVal (s.data.toList.drop p) by rw [HVal.out]; omega)
          clear hv
          go_wp2_with fail
          refine (fail_any b true s p l err 10 p _ (by exact HB4.out)).mono ?_
          rintro e Wf ⟨rfl, ff, vf, hfv, hLXf, gf, hgf, hvf⟩
          have HBf := Aside0.mk hLXf
          have HFf := Aside0.mk (HF4.out.step ff rfl rfl rfl rfl)
          have HGf := Aside0.mk (show TokB Wf g k0 a0 l0 t0 n0 from ff.blk (by exact HG4.out) hgb)
          have HFv := Aside0.mk hfv
          have hgsz : b < W4.heap.size ∧ g < W4.heap.size := ⟨blk_lt HB4.out, blk_lt HG4.out⟩
          have hgf' : W4.heap.size ≤ gf := hgf
          have HGf2 := Aside0.mk (show ∀ g2, vf = .iface 56 (.pointer (some ⟨g2, 0, none⟩)) → b < g2 from fun g2 e => by rw [hvf] at e; injection e with _ e; injection e with e; injection (Option.some.inj e) with e; omega)
          have HGf3 := Aside0.mk (show ∀ g2, vf = .iface 56 (.pointer (some ⟨g2, 0, none⟩)) → g2 ≠ g from fun g2 e => by rw [hvf] at e; injection e with _ e; injection e with e; injection (Option.some.inj e) with e; omega)
          clear hfv hLXf hgf hvf ff hgf' hgsz

          go_wp2_with (go_at_call 55; refine (take_int b true s p l (d) _ _ _ (by omega) HBf.out (by omega) hs (by omega)).mono ?_; rintro e w2 ⟨rfl, h2, f2⟩; have HB2 := Aside0.mk h2; have HF2 := Aside0.mk (HFf.out.trans f2); have HG2 := Aside0.mk (show TokB w2 g k0 a0 l0 t0 n0 from f2.blk HGf.out hgb); obtain ⟨gf, hvf, hgf⟩ := HFv.out; have HGF := Aside0.mk (f2.blk hgf (fun e => by have := HGf2.out gf hvf; omega)); have hgfne := HGf3.out gf hvf; have HVF := Aside0.mk hvf; clear hvf hgf; obtain ⟨c1, c2, c3, z1, z2, z3⟩ := tok_cells HG2.out; clear h2 f2)
          go_end0

          show NumPost b g s p l err a0 l0 w _ _
          rw [NumPost, if_neg (by rw [HDig.out]; omega), if_pos HV.out]
          refine ⟨rfl, ?_, vf, p + (d), l + nls (s.extract p (p + (d))).data.toList, ⟨gf, HVF.out, ?_⟩, ?_⟩
          · exact ((HF2.out.two g).trans ((((Fr.refl g _).set 0 _).set 4 _).set 3 _ |>.two' b))
          · exact blk_far (blk_far (blk_far HGF.out hgfne _) hgfne _) hgfne _
          · exact blk_far (blk_far (blk_far HB2.out (Ne.symm hgb) _) (Ne.symm hgb) _) (Ne.symm hgb) _

    · rw [if_neg hdq] at HI
      have hdle : d = q.size := by omega
      clear hqs hqd
      go_wp2_with fail
      refine HI.out.mono ?_
      rintro e W3 ⟨rfl, hb3⟩
      have HB3 := Aside0.mk (show LX W3 b true s p l err from blk_below HB2.out hb3)
      have HG3 := Aside0.mk (show TokB W3 g k0 a0 l0 t0 n0 from blk_below HG2.out hb3)
      have HC3 := Aside0.mk (blk_below HC2.out hb3)
      have HF3 := Aside0.mk (HF2.out.below hb3)
      clear hb3 HI
      have HL3 := Aside0.mk (HLw.out.keep (HF3.out.out.block _ (by omega) (fun e => by have := Option.some.inj e; omega)) (HF3.out.out.block _ (by omega) (fun e => by have := Option.some.inj e; omega)))
      have hds : q.size = d := hdle.symm
      have hdl : q.data.toList = ((s.data.toList.drop p).drop 0).take d := by rw [← HQL.out, List.take_of_length_le (by rw [hdle]; simp)]
      clear hdle
      go_upto_region 10 with (fail)
      obtain ⟨D, rfl⟩ : ∃ D, D = q := ⟨_, rfl⟩
      have HDL := Aside0.mk hdl
      clear hdl
      have HLenE := Aside0.mk (show nLen (s.data.toList.drop p) = d by unfold nLen; rw [HHD.out, HDig.out]; exact Nat.zero_add d)
      have HNL := Aside0.mk (show (((p + nLen (s.data.toList.drop p)) : Nat) : Int) = ((p : Int) + (d : Int)) by rw [HLenE.out]; omega)
      have c1 : W3.cell? ⟨b, 260, none⟩ = some (.int .i64 p) := lx_at HB3.out 1
      by_cases hd0 : d = 0
      · have HDig0 := Aside0.mk (show nDig (s.data.toList.drop p) = 0 from HDig.out.trans hd0)
        have hemp : D.toList.isEmpty = true := by
          rw [← decide_eq_emptyBytes]
          exact decide_eq_true (by
            obtain ⟨⟨x⟩⟩ := D
            cases x with
            | nil => rfl
            | cons _ _ => simp [ByteArray.size] at hds; omega)
        clear hd0
        go_wp2_with fail
        refine (fail_any b true s p l err 7 _ _ (by exact HB3.out)).mono ?_
        rintro e Wf ⟨rfl, ff, vf, hfv, hLXf, gf, hgf, hvf⟩
        have HBf := Aside0.mk hLXf
        have HFf := Aside0.mk (HF3.out.step ff rfl rfl rfl rfl)
        have HFv := Aside0.mk hfv
        clear hfv hLXf hgf hvf ff
        go_wp2
        go_end0
        show NumPost b g s p l err a0 l0 w _ _
        rw [NumPost, if_pos HDig0.out]
        refine ⟨rfl, HFf.out.two g, _, _, _, ?_, HBf.out⟩
        rw [HNL.out]
        exact HFv.out
      · have hemp : D.toList.isEmpty = false := by
          rw [← decide_eq_emptyBytes]
          exact decide_eq_false (fun h => hd0 (by rw [← hds, h]; rfl))
        have HP3 := Aside0.mk (nParse (s.data.toList.drop p) D (by rw [HDL.out, HHD.out, HDig.out]) (by rw [hds]; exact hd0) (by omega) W3 HL3.out)
        rw [HBase.out] at HP3
        have b3 : W3.cell? ⟨w.heap.size, 0, none⟩ = some (.int .i64 10) := blk_cell HC3.out 0
        obtain ⟨v, hv⟩ : ∃ v, nVal (s.data.toList.drop p) = v := ⟨_, rfl⟩
        rw [hv] at HP3
        have HVal := Aside0.mk hv
        clear hv
        go_wp2_with fail
        refine HP3.out.mono ?_
        rintro e W4 ⟨hb4, ⟨hv, rfl⟩ | ⟨hv, n4, x4, rfl⟩⟩
        · have HB4 := Aside0.mk (show LX W4 b true s p l err from blk_below HB3.out hb4)
          have HG4 := Aside0.mk (show TokB W4 g k0 a0 l0 t0 n0 from blk_below HG3.out hb4)
          have HF4 := Aside0.mk (HF3.out.below hb4)
          clear hb4 HP3 c1 b3
          have c0 : W4.cell? ⟨b, 259, none⟩ = some (.string s) := lx_at HB4.out 0
          by_cases hv32 : 4294967296 ≤ v
          · have HV := Aside0.mk (show 4294967296 ≤ nVal (s.data.toList.drop p) from HVal.out ▸ hv32)
            have hge : decide ((4294967296 : Int) ≤ (v : Int)) = true := decide_eq_true (by omega)
            clear hv32
            go_wp2_with fail
            refine (fail_any b true s p l err 10 p _ (by exact HB4.out)).mono ?_
            rintro e Wf ⟨rfl, ff, vf, hfv, hLXf, gf, hgf, hvf⟩
            have HBf := Aside0.mk hLXf
            have HFf := Aside0.mk (HF4.out.step ff rfl rfl rfl rfl)
            have HGf := Aside0.mk (show TokB Wf g k0 a0 l0 t0 n0 from ff.blk (by exact HG4.out) hgb)
            have HFv := Aside0.mk hfv
            have hgsz : b < W4.heap.size ∧ g < W4.heap.size := ⟨blk_lt HB4.out, blk_lt HG4.out⟩
            have hgf' : W4.heap.size ≤ gf := hgf
            have HGf2 := Aside0.mk (show ∀ g2, vf = .iface 56 (.pointer (some ⟨g2, 0, none⟩)) → b < g2 from fun g2 e => by rw [hvf] at e; injection e with _ e; injection e with e; injection (Option.some.inj e) with e; omega)
            have HGf3 := Aside0.mk (show ∀ g2, vf = .iface 56 (.pointer (some ⟨g2, 0, none⟩)) → g2 ≠ g from fun g2 e => by rw [hvf] at e; injection e with _ e; injection e with e; injection (Option.some.inj e) with e; omega)
            clear hfv hLXf hgf hvf ff hgf' hgsz

            go_wp2_with (go_at_call 55; refine (take_int b true s p l (d) _ _ _ (by omega) HBf.out (by omega) hs (by omega)).mono ?_; rintro e w2 ⟨rfl, h2, f2⟩; have HB2 := Aside0.mk h2; have HF2 := Aside0.mk (HFf.out.trans f2); have HG2 := Aside0.mk (show TokB w2 g k0 a0 l0 t0 n0 from f2.blk HGf.out hgb); obtain ⟨gf, hvf, hgf⟩ := HFv.out; have HGF := Aside0.mk (f2.blk hgf (fun e => by have := HGf2.out gf hvf; omega)); have hgfne := HGf3.out gf hvf; have HVF := Aside0.mk hvf; clear hvf hgf; obtain ⟨c1, c2, c3, z1, z2, z3⟩ := tok_cells HG2.out; clear h2 f2)
            go_end0

            show NumPost b g s p l err a0 l0 w _ _
            rw [NumPost, if_neg (by rw [HDig.out]; omega), if_pos HV.out]
            refine ⟨rfl, ?_, vf, p + (d), l + nls (s.extract p (p + (d))).data.toList, ⟨gf, HVF.out, ?_⟩, ?_⟩
            · exact ((HF2.out.two g).trans ((((Fr.refl g _).set 0 _).set 4 _).set 3 _ |>.two' b))
            · exact blk_far (blk_far (blk_far HGF.out hgfne _) hgfne _) hgfne _
            · exact blk_far (blk_far (blk_far HB2.out (Ne.symm hgb) _) (Ne.symm hgb) _) (Ne.symm hgb) _

          · have HV := Aside0.mk (show ¬ 4294967296 ≤ nVal (s.data.toList.drop p) from HVal.out ▸ hv32)
            have hge : decide ((4294967296 : Int) ≤ (v : Int)) = false := decide_eq_false (by omega)
            have HV32 := Aside0.mk hv32
            clear hv32
            obtain ⟨NE, hNE⟩ : ∃ NE, p + (d) = NE := ⟨_, rfl⟩
            have ht : (((p : Int) + (d : Int))).toNat = NE := by omega
            have y0 : (0 : Int) ≤ ((p : Int) + (d : Int)) := by omega
            have HNE := Aside0.mk hNE
            by_cases hlt : NE < s.size
            · have y1 : ((p : Int) + (d : Int)) < (s.size : Int) := by omega
              have y2 : decide (((p : Int) + (d : Int)) < (s.size : Int)) = true := decide_eq_true y1
              obtain ⟨c, hc⟩ : ∃ c : Nat, (s[NE]'hlt).toNat = c := ⟨_, rfl⟩
              have hcn : c < 256 := by rw [← hc]; exact (s[NE]'hlt).toNat_lt
              have hidx : ∀ h : NE < s.size, (s[NE]'h).toNat = c := fun _ => hc
              have htl : nTail (s.data.toList.drop p) = hasS c 6 := by
                unfold nTail
                rw [HLenE.out, List.getElem?_drop, HNE.out, List.getElem?_eq_getElem (by simpa using hlt)]
                show hasS (((s[NE]'hlt).toNat : Nat) : Int) 6 = _
                rw [hc]
              clear hc hNE
              cases hh : hasS c 6 with
              | true =>
                have HTail := Aside0.mk (show nTail (s.data.toList.drop p) = true from htl.trans hh)
                have HCon := Aside0.mk (show ∀ W, LX W b true s p l err → Calls Tryz.prog 38 #[.pointer (some ⟨b, 0, none⟩), .int .u8 c, .int .u8 6] W fun e w' => e = .returned (.bool true) ∧ LX w' b true s p l err ∧ Fr b W w' from
                  fun W h => hh ▸ is_any b true _ c 6 W h (by omega) (by omega))
                clear hh htl
                go_wp2
                go_still_tail 17, (by kernel_rfl)
                go_wp2_with (go_at_call 38; refine (HCon.out _ (by exact HB4.out)).mono ?_; rintro e W5 ⟨rfl, h5, f5⟩; have HB5 := Aside0.mk h5; have HF5 := Aside0.mk (HF4.out.step f5 rfl rfl rfl rfl); have HG5 := Aside0.mk (show TokB W5 g k0 a0 l0 t0 n0 from f5.blk (by exact HG4.out) hgb); clear h5 f5)
                clear HB4 HF4 HG4 ht y0 y1 y2 hidx
                obtain ⟨W4, rfl⟩ : ∃ W4, W4 = W5 := ⟨_, rfl⟩
                have HB4 := HB5
                have HF4 := HF5
                have HG4 := HG5
                refine (fail_any b true s p l err 7 _ _ (by exact HB4.out)).mono ?_
                rintro e Wf ⟨rfl, ff, vf, hfv, hLXf, gf, hgf, hvf⟩
                have HBf := Aside0.mk hLXf
                have HFf := Aside0.mk (HF4.out.step ff rfl rfl rfl rfl)
                have HGf := Aside0.mk (show TokB Wf g k0 a0 l0 t0 n0 from ff.blk (by exact HG4.out) hgb)
                have HFv := Aside0.mk hfv
                have hgsz : b < W4.heap.size ∧ g < W4.heap.size := ⟨blk_lt HB4.out, blk_lt HG4.out⟩
                have hgf' : W4.heap.size ≤ gf := hgf
                have HGf2 := Aside0.mk (show ∀ g2, vf = .iface 56 (.pointer (some ⟨g2, 0, none⟩)) → b < g2 from fun g2 e => by rw [hvf] at e; injection e with _ e; injection e with e; injection (Option.some.inj e) with e; omega)
                have HGf3 := Aside0.mk (show ∀ g2, vf = .iface 56 (.pointer (some ⟨g2, 0, none⟩)) → g2 ≠ g from fun g2 e => by rw [hvf] at e; injection e with _ e; injection e with e; injection (Option.some.inj e) with e; omega)
                clear hfv hLXf hgf hvf ff hgf' hgsz

                go_wp2_with (go_at_call 55; refine (take_int b true s p l (d) _ _ _ (by omega) HBf.out (by omega) hs (by omega)).mono ?_; rintro e w2 ⟨rfl, h2, f2⟩; have HB2 := Aside0.mk h2; have HF2 := Aside0.mk (HFf.out.trans f2); have HG2 := Aside0.mk (show TokB w2 g k0 a0 l0 t0 n0 from f2.blk HGf.out hgb); obtain ⟨gf, hvf, hgf⟩ := HFv.out; have HGF := Aside0.mk (f2.blk hgf (fun e => by have := HGf2.out gf hvf; omega)); have hgfne := HGf3.out gf hvf; have HVF := Aside0.mk hvf; clear hvf hgf; obtain ⟨c1, c2, c3, z1, z2, z3⟩ := tok_cells HG2.out; clear h2 f2)
                go_end0

                show NumPost b g s p l err a0 l0 w _ _
                rw [NumPost, if_neg (by rw [HDig.out]; omega), if_neg (by have := HV.out; omega), if_pos HTail.out, HNL.out]
                refine ⟨rfl, ?_, vf, p + (d), l + nls (s.extract p (p + (d))).data.toList, ⟨gf, HVF.out, ?_⟩, ?_⟩
                · exact ((HF2.out.two g).trans ((((Fr.refl g _).set 0 _).set 4 _).set 3 _ |>.two' b))
                · exact blk_far (blk_far (blk_far HGF.out hgfne _) hgfne _) hgfne _
                · exact blk_far (blk_far (blk_far HB2.out (Ne.symm hgb) _) (Ne.symm hgb) _) (Ne.symm hgb) _

              | false =>
                have HTail := Aside0.mk (show nTail (s.data.toList.drop p) = false from htl.trans hh)
                have HCon := Aside0.mk (show ∀ W, LX W b true s p l err → Calls Tryz.prog 38 #[.pointer (some ⟨b, 0, none⟩), .int .u8 c, .int .u8 6] W fun e w' => e = .returned (.bool false) ∧ LX w' b true s p l err ∧ Fr b W w' from
                  fun W h => hh ▸ is_any b true _ c 6 W h (by omega) (by omega))
                clear hh htl
                go_wp2
                go_still_tail 17, (by kernel_rfl)
                go_wp2_with (go_at_call 38; refine (HCon.out _ (by exact HB4.out)).mono ?_; rintro e W5 ⟨rfl, h5, f5⟩; have HBf := Aside0.mk h5; have HFf := Aside0.mk (HF4.out.step f5 rfl rfl rfl rfl); have HGf := Aside0.mk (show TokB W5 g k0 a0 l0 t0 n0 from f5.blk (by exact HG4.out) hgb); clear h5 f5)
                clear HB4 HF4 HG4 ht y0 y1 y2 hidx
                go_wp2_with (go_at_call 55; refine (take_int b true s p l (d) _ _ _ (by omega) HBf.out (by omega) hs (by omega)).mono ?_; rintro e w2 ⟨rfl, h2, f2⟩; have HB2 := Aside0.mk h2; have HF2 := Aside0.mk (HFf.out.trans f2); have HG2 := Aside0.mk (show TokB w2 g k0 a0 l0 t0 n0 from f2.blk HGf.out hgb); obtain ⟨c1, c2, c3, z1, z2, z3⟩ := tok_cells HG2.out; clear h2 f2)
                go_end0

                show NumPost b g s p l err a0 l0 w _ _
                rw [NumPost, if_neg (by rw [HDig.out]; omega), if_neg (by have := HV.out; omega), if_neg (by rw [HTail.out]; decide), HLenE.out, HVal.out]
                have hw : wrap64 (v : Int) = (v : Int) := by have := HV32.out; unfold wrap64; omega
                rw [hw]
                refine ⟨rfl, ?_, ?_, ?_⟩
                · exact ((HF2.out.two g).trans ((((Fr.refl g _).set 0 _).set 4 _).set 3 _ |>.two' b))
                · exact blk_far (blk_far (blk_far HB2.out (Ne.symm hgb) _) (Ne.symm hgb) _) (Ne.symm hgb) _
                · exact blk_set (blk_set (blk_set HG2.out 0 _) 4 _) 3 _

            · have y1 : ¬ ((p : Int) + (d : Int)) < (s.size : Int) := by omega
              have y2 : decide (((p : Int) + (d : Int)) < (s.size : Int)) = false := decide_eq_false y1
              have HTail := Aside0.mk (show nTail (s.data.toList.drop p) = false by
                unfold nTail
                rw [HLenE.out, List.getElem?_drop, HNE.out, List.getElem?_eq_none (by simpa using hlt)])
              clear hNE ht
              go_wp2
              go_quiet (fail)
              have HBf := Aside0.mk (show LX (W4.drewN nq) b true s p l err from HB4.out)
              have HFf := Aside0.mk (HF4.out.drewN nq)
              have HGf := Aside0.mk (show TokB (W4.drewN nq) g k0 a0 l0 t0 n0 from HG4.out)
              generalize W4.drewN nq = W5 at *
              clear HB4 HF4 HG4 y0 y1 y2 c0
              go_wp2_with (go_at_call 55; refine (take_int b true s p l (d) _ _ _ (by omega) HBf.out (by omega) hs (by omega)).mono ?_; rintro e w2 ⟨rfl, h2, f2⟩; have HB2 := Aside0.mk h2; have HF2 := Aside0.mk (HFf.out.trans f2); have HG2 := Aside0.mk (show TokB w2 g k0 a0 l0 t0 n0 from f2.blk HGf.out hgb); obtain ⟨c1, c2, c3, z1, z2, z3⟩ := tok_cells HG2.out; clear h2 f2)
              go_end0

              show NumPost b g s p l err a0 l0 w _ _
              rw [NumPost, if_neg (by rw [HDig.out]; omega), if_neg (by have := HV.out; omega), if_neg (by rw [HTail.out]; decide), HLenE.out, HVal.out]
              have hw : wrap64 (v : Int) = (v : Int) := by have := HV32.out; unfold wrap64; omega
              rw [hw]
              refine ⟨rfl, ?_, ?_, ?_⟩
              · exact ((HF2.out.two g).trans ((((Fr.refl g _).set 0 _).set 4 _).set 3 _ |>.two' b))
              · exact blk_far (blk_far (blk_far HB2.out (Ne.symm hgb) _) (Ne.symm hgb) _) (Ne.symm hgb) _
              · exact blk_set (blk_set (blk_set HG2.out 0 _) 4 _) 3 _

        · have HB4 := Aside0.mk (show LX W4 b true s p l err from blk_below HB3.out hb4)
          have HG4 := Aside0.mk (show TokB W4 g k0 a0 l0 t0 n0 from blk_below HG3.out hb4)
          have HF4 := Aside0.mk (HF3.out.below hb4)
          clear hb4 HP3 c1 b3
          have HV := Aside0.mk (show 4294967296 ≤ nVal (s.data.toList.drop p) by rw [HVal.out]; omega)
          clear hv
          go_wp2_with fail
          refine (fail_any b true s p l err 10 p _ (by exact HB4.out)).mono ?_
          rintro e Wf ⟨rfl, ff, vf, hfv, hLXf, gf, hgf, hvf⟩
          have HBf := Aside0.mk hLXf
          have HFf := Aside0.mk (HF4.out.step ff rfl rfl rfl rfl)
          have HGf := Aside0.mk (show TokB Wf g k0 a0 l0 t0 n0 from ff.blk (by exact HG4.out) hgb)
          have HFv := Aside0.mk hfv
          have hgsz : b < W4.heap.size ∧ g < W4.heap.size := ⟨blk_lt HB4.out, blk_lt HG4.out⟩
          have hgf' : W4.heap.size ≤ gf := hgf
          have HGf2 := Aside0.mk (show ∀ g2, vf = .iface 56 (.pointer (some ⟨g2, 0, none⟩)) → b < g2 from fun g2 e => by rw [hvf] at e; injection e with _ e; injection e with e; injection (Option.some.inj e) with e; omega)
          have HGf3 := Aside0.mk (show ∀ g2, vf = .iface 56 (.pointer (some ⟨g2, 0, none⟩)) → g2 ≠ g from fun g2 e => by rw [hvf] at e; injection e with _ e; injection e with e; injection (Option.some.inj e) with e; omega)
          clear hfv hLXf hgf hvf ff hgf' hgsz

          go_wp2_with (go_at_call 55; refine (take_int b true s p l (d) _ _ _ (by omega) HBf.out (by omega) hs (by omega)).mono ?_; rintro e w2 ⟨rfl, h2, f2⟩; have HB2 := Aside0.mk h2; have HF2 := Aside0.mk (HFf.out.trans f2); have HG2 := Aside0.mk (show TokB w2 g k0 a0 l0 t0 n0 from f2.blk HGf.out hgb); obtain ⟨gf, hvf, hgf⟩ := HFv.out; have HGF := Aside0.mk (f2.blk hgf (fun e => by have := HGf2.out gf hvf; omega)); have hgfne := HGf3.out gf hvf; have HVF := Aside0.mk hvf; clear hvf hgf; obtain ⟨c1, c2, c3, z1, z2, z3⟩ := tok_cells HG2.out; clear h2 f2)
          go_end0

          show NumPost b g s p l err a0 l0 w _ _
          rw [NumPost, if_neg (by rw [HDig.out]; omega), if_pos HV.out]
          refine ⟨rfl, ?_, vf, p + (d), l + nls (s.extract p (p + (d))).data.toList, ⟨gf, HVF.out, ?_⟩, ?_⟩
          · exact ((HF2.out.two g).trans ((((Fr.refl g _).set 0 _).set 4 _).set 3 _ |>.two' b))
          · exact blk_far (blk_far (blk_far HGF.out hgfne _) hgfne _) hgfne _
          · exact blk_far (blk_far (blk_far HB2.out (Ne.symm hgb) _) (Ne.symm hgb) _) (Ne.symm hgb) _

end Go.Proofs.YtdlfjokhgmngcaaGreatDoor.Lx
