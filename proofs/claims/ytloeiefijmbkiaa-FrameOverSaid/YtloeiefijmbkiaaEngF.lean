/-
  THE ENGINE, PART F: rules in the form in which proofs use them. Over any program. No condition.
-/
import Derived.Test.YtloeiefijmbkiaaEngE
import Derived.KernelRfl
set_option linter.unusedSimpArgs false
set_option linter.unusedVariables false
set_option linter.unusedSectionVars false
namespace Go.E
section
variable {P : Program} {w : World} {O : List Res} {L : List Fact} {a : Option Addr} {vs : List Value}

/-! ### Loads, now and in whatever world of a kind -/
theorem FloatP.load1 {I : World → Prop} {t : TypeId} {k : Nat} {v : Value} {K : Value → Prop} (hI : ∀ w, I w → Rd w a vs) (hk : vs[k]? = some v) (ht : (tis (tk P t) && !tagg (tk P t)) = true) (h : K v) :
    FloatP P (Instr.loadAt t (.pointer (sh a k))) I K := ⟨v, fun w hw => run_load1 (hI w hw) hk ht, h⟩
theorem FloatP.load0 {I : World → Prop} {t : TypeId} {v : Value} {K : Value → Prop} (hI : ∀ w, I w → Rd w a vs) (hk : vs[0]? = some v) (ht : (tis (tk P t) && !tagg (tk P t)) = true) (h : K v) :
    FloatP P (Instr.loadAt t (.pointer a)) I K := by have := FloatP.load1 (K := K) hI hk ht h; rwa [sh_zero] at this
theorem RunV.load1 {t : TypeId} {k : Nat} {v : Value} {K : Value → World → Prop} (hr : Rd w a vs) (hk : vs[k]? = some v) (ht : (tis (tk P t) && !tagg (tk P t)) = true) (h : K v w) :
    RunV P (Instr.loadAt t (.pointer (sh a k))) w K := .of_ok (run_load1 hr hk ht) h
theorem RunV.load0 {t : TypeId} {v : Value} {K : Value → World → Prop} (hr : Rd w a vs) (hk : vs[0]? = some v) (ht : (tis (tk P t) && !tagg (tk P t)) = true) (h : K v w) :
    RunV P (Instr.loadAt t (.pointer a)) w K := by have := RunV.load1 (K := K) hr hk ht h; rwa [sh_zero] at this

/-! ### Bytes -/
def bv (b : UInt8) : Value := .int .u8 (b.toNat : Int)
def byt (a : Option Addr) (l : List UInt8) : Fact := arr a (l.map bv)
theorem bv_one (b : UInt8) : (bv b).oneCell' = true := rfl
theorem bv_inj {b c : UInt8} (h : ((b.toNat : Int) = (c.toNat : Int))) : b = c := UInt8.toNat_inj.1 (by omega)
theorem bv_at {l : List UInt8} {k : Nat} {b : UInt8} (h : l[k]? = some b) : (l.map bv)[k]? = some (bv b) := by simp [h]
theorem bv_lt {l : List UInt8} {k : Nat} (h : k < l.length) : (l.map bv)[k]? = some (bv l[k]) := by simp [h]

theorem mem0 {α : Type _} {x : α} {l : List α} : x ∈ x :: l := List.mem_cons_self ..
theorem mem1 {α : Type _} {x y : α} {l : List α} : x ∈ y :: x :: l := .tail _ (.head _)
theorem mem2 {α : Type _} {x y z : α} {l : List α} : x ∈ y :: z :: x :: l := .tail _ (.tail _ (.head _))
theorem mem3 {α : Type _} {x y z u : α} {l : List α} : x ∈ y :: z :: u :: x :: l := .tail _ (.tail _ (.tail _ (.head _)))

/-- the number in a slot -/
def num (v : Value) : Nat := match v with
  | .int _ n => n.toNat
  | _ => 0
end
end Go.E
