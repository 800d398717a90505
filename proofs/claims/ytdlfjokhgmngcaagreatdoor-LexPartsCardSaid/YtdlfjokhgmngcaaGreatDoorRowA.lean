/- What the rows of this seat hand over: the listed variables as the lexer wants them; a slice of bytes that came in. -/
import Derived.Test.YtdlfjokhgmngcaaGreatDoorTie
import Derived.Test.YtdlfjokhgmngcaaGreatDoorLexZ
import Derived.WalkKit
import Derived.ProofKit
import Derived.OpenShut
import Derived.ShutString
import Derived.ChangeOld
import Derived.Below
import Derived.SizedLaws
import Derived.Test.YtdlfjokhgmngcaaGreatDoorWSized
import Derived.LaidMore
import Derived.LaidHandle
import Derived.Stop.Joined
import Derived.Stop.LaidErr
import Derived.Lib.LaidTab
import Derived.SevenTiedAt
namespace Go.Proofs.YtdlfjokhgmngcaaGreatDoor.Lx
open Go.ChangeShapes Go.WideShapes Go.ChangeAt Go.RowKit
open Go.ChangeMaps (open_string shut_string)
set_option linter.unusedVariables false

abbrev LAID : List (String × DataW Unit) := Rows.lexSortsRow.laid
theorem own : ownKnob Tryz.prog.godebug = none := by kernel_rfl
theorem laidOut : laidOutB Tryz.prog = true := by kernel_rfl
theorem gET : Tryz.prog.globalNamed "errors.errorType" = some 0 := by kernel_rfl
theorem rtT : (Tryz.prog.cutTypes.find? (·.1 == "internal/reflectlite.rtype")).map (·.2) = some 125 := by kernel_rfl
theorem tySize : Tryz.prog.types.size = 238 := by kernel_rfl
theorem oneRow : ((List.range 238).filter fun t => Tryz.prog.rowNamed t [101, 114, 114, 111, 114]) = [26] := by kernel_rfl

theorem laidE_of {W : World} (h : laidMetH Tryz.prog LAID W) : LaidE W := by
  have h' : laidMet Tryz.prog (LAID.filter fun x => x.2.handleName?.isNone) W ∧ handlesMet Tryz.prog (LAID.filter fun x => x.2.handleName?.isSome) W := h
  obtain ⟨name, u, ty, e1, e2, e3, e4, e5⟩ := h'.2 ("errors.errorType", Rows.laid_errors_errorType) (List.mem_singleton.2 rfl)
  have en : name = [101, 114, 114, 111, 114] := (Option.some.inj e1).symm
  subst en
  obtain rfl := Option.some.inj (rtT.symm.trans e2)
  have hm : ty ∈ (List.range 238).filter fun t => Tryz.prog.rowNamed t [101, 114, 114, 111, 114] := List.mem_filter.2 ⟨List.mem_range.2 (by rw [← tySize]; exact e3), e4⟩
  rw [oneRow] at hm
  obtain rfl := List.mem_singleton.1 hm
  have hh : typeHandle Tryz.prog 26 = .pointer (some ⟨10, 26, none⟩) := by kernel_rfl
  rw [hh] at e5
  have := World.var?_cell gET e5 0
  unfold LaidE
  simpa using this

theorem laid_plain {W : World} (h : laidMetH Tryz.prog LAID W) : laidMet Tryz.prog [("math/bits.deBruijn32tab", Rows.laid_math_bits_deBruijn32tab), ("math/bits.deBruijn64tab", Rows.laid_math_bits_deBruijn64tab), ("internal/strconv.uint64pow10", Rows.laid_internal_strconv_uint64pow10), ("strconv.ErrRange", Rows.laid_strconv_ErrRange), ("strconv.ErrSyntax", Rows.laid_strconv_ErrSyntax), ("unicode.White_Space", Rows.laid_unicode_White_Space), ("strings.asciiSpace", Rows.laid_strings_asciiSpace)] W :=
  (show laidMet Tryz.prog (LAID.filter fun x => x.2.handleName?.isNone) W ∧ handlesMet Tryz.prog (LAID.filter fun x => x.2.handleName?.isSome) W from h).1

theorem head_var {P : Program} {W : World} {n : String} {d : DataW Unit} {r : List (String × DataW Unit)} {g : Nat} (h : laidMet P ((n, d) :: r) W) (hg : P.globalNamed n = some g) : ∃ cs, W.var? P n = some cs ∧ g < W.heap.size := by
  obtain ⟨ps, ⟨g', t', cs, fuel, p, q, hg', ht', hvar, hd, _, _⟩, _⟩ := h
  refine ⟨cs, hvar, ?_⟩
  unfold World.var? at hvar
  rw [hg] at hvar
  simp only [Option.bind_some] at hvar
  rcases Nat.lt_or_ge g W.heap.size with h | h
  · exact h
  · simp [Array.getElem?_eq_none h] at hvar

theorem low_of {W : World} (h : laidMetH Tryz.prog LAID W) : 8 < W.heap.size := (head_var (laid_plain h).tail (g := 8) (by kernel_rfl)).choose_spec.2

theorem star : "*" ++ "errors.errorString" = "*errors.errorString" := by decide
theorem rowErr (u : TypeId) (h : Tryz.prog.typeName? 3 u = some "*errors.errorString") : u = 190 :=
  typeName_ptr_named (nm := "errors.errorString") (by rw [star]; kernel_rfl) (by kernel_rfl) (by decide) u (by rw [star]; exact h)
theorem gER : Tryz.prog.globalNamed "strconv.ErrRange" = some 5 := by kernel_rfl
set_option maxRecDepth 100000 in
theorem laid_of {W : World} (h : laidMetH Tryz.prog LAID W) : Laid W := by
  have h1 := (laid_plain h).tail.tail.tail
  have h2 := h1.tail.tail.tail
  refine ⟨?_, ?_⟩
  · exact Lib.tabIs_of_head (g := 2) (by kernel_rfl) (by kernel_rfl) Tryz.underlying70 Tryz.underlying5 (by kernel_rfl) (by kernel_rfl) (show laidMet Tryz.prog (("strings.asciiSpace", Lib.tabData .u8 Lib.asciiSpaceTab) :: []) W from h2)
  · obtain ⟨a0, s0, hv0, _⟩ := laid_sentinel h1 gER (by kernel_rfl) Tryz.underlying26 rowErr Tryz.underlying190 Tryz.underlying192 rfl rfl Tryz.underlying9 (by kernel_rfl) (by kernel_rfl)
    exact ⟨_, by simpa using World.var?_cell gER hv0 0, .inr ⟨_, _, rfl⟩⟩

set_option maxRecDepth 100000 in
/-- The door's own heap meets the condition. -/
theorem door_met (os : Os) (args : Array Value) : laidMetH Tryz.prog LAID ((World.doorLaid Tryz.prog 4000 os).forCall (fun _ _ => 0) ⟨#[], args, []⟩).memory :=
  laidMetH_of_parts3 (fuel := 8) (laidMet_of_run' 8 (by kernel_rfl) (by kernel_rfl)) (by kernel_rfl) (by kernel_rfl)

/-- A slice of bytes, as it was read. -/
def IsRow (w : World) (a : Option Addr) (len cap : Nat) (zs : List Int) : Prop :=
  (a = none ∧ len = 0 ∧ cap = 0 ∧ zs = []) ∨
  ∃ x, a = some x ∧ len ≤ cap ∧ cap ≤ maxLen ∧ zs.length = cap ∧ (∀ i, i < zs.length → w.cell? (x.add i) = some (.int .u8 (zs.getD i 0))) ∧ ∀ n ∈ zs, (Lit.int .u8 n).wf = true

theorem u8_wf {n : Int} (h : (Lit.int .u8 n).wf = true) : 0 ≤ n ∧ n < 256 := by
  have h' : IntKind.u8.min ≤ n ∧ n ≤ IntKind.u8.max := by simpa [Lit.wf] using h
  have a : (0 : Int) ≤ n := h'.1
  have b : n ≤ (255 : Int) := h'.2
  omega

theorem u8_of {n : Int} (h : (Lit.int .u8 n).wf = true) : ∃ c : UInt8, (c.toNat : Int) = n := by
  obtain ⟨h0, h1⟩ := u8_wf h
  exact ⟨UInt8.ofNat n.toNat, by rw [UInt8.toNat_ofNat']; omega⟩

theorem bytes_of_row {w : World} {a : Option Addr} {len cap : Nat} {zs : List Int} (h : IsRow w a len cap zs) : ∃ l : List UInt8, l.length = len ∧ len ≤ 9223372036854775807 ∧ BytesAt w a l := by
  rcases h with ⟨rfl, rfl, rfl, rfl⟩ | ⟨x, rfl, hl, hm, hz, hcell, hwz⟩
  · exact ⟨[], rfl, by omega, .inl rfl⟩
  · have hlen : ((zs.take len).map fun z => UInt8.ofNat z.toNat).length = len := by rw [List.length_map, List.length_take]; omega
    refine ⟨(zs.take len).map fun z => UInt8.ofNat z.toNat, hlen, by unfold maxLen at hm; omega, ?_⟩
    rcases Nat.eq_zero_or_pos len with h0 | h0
    · exact .inl (List.length_eq_zero_iff.1 (by rw [hlen, h0]))
    · obtain ⟨g, o, sp⟩ := x
      have hc0 := hcell 0 (by omega)
      obtain rfl : sp = none := by simpa [Addr.add] using World.cell?_spot hc0
      have hadd : ∀ i, (⟨g, o, none⟩ : Addr).add i = ⟨g, o + i, none⟩ := fun i => by unfold Addr.add; split <;> simp_all
      refine .inr ⟨g, o, rfl, ?_, fun k y hk => ?_⟩
      · rcases Nat.lt_or_ge g w.heap.size with h | h
        · exact h
        · rw [hadd] at hc0; simp [World.cell?, Array.getElem?_eq_none h] at hc0
      · have hk2 : k < len := by
          have := (List.getElem?_eq_some_iff.1 hk).1
          rw [hlen] at this; exact this
        rw [← hadd, hcell k (by omega)]
        have e1 : zs[k]? = some (zs.getD k 0) := by rw [List.getD, List.getElem?_eq_getElem (by omega)]; rfl
        have e2 : ((zs.take len).map fun z => UInt8.ofNat z.toNat)[k]? = some (UInt8.ofNat (zs.getD k 0).toNat) := by
          rw [List.getElem?_map, List.getElem?_take_of_lt hk2, e1]; rfl
        rw [e2] at hk
        obtain rfl := Option.some.inj hk
        obtain ⟨b0, b1⟩ := u8_wf (hwz (zs.getD k 0) (List.mem_of_getElem? e1))
        congr 2
        rw [UInt8.toNat_ofNat']
        omega
end Go.Proofs.YtdlfjokhgmngcaaGreatDoor.Lx
