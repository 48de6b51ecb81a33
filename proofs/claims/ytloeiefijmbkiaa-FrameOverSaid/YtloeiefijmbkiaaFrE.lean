/-
  The frame seat: the framer. No condition but those in each theorem.
-/
import Derived.Test.YtloeiefijmbkiaaFrD
set_option linter.unusedSimpArgs false
set_option linter.unusedVariables false
set_option linter.unusedSectionVars false
namespace Go.Proofs.Ytloeiefijmbkiaa
open Go.E

/-- a framer: what it holds, whether it is over -/
def fr (f : Nat) (held : List UInt8) (over : Bool) : Res := exR fun (p : Option Addr × Nat) =>
  sepR (cel f 48 [.slice p.1 held.length p.2, .bool over]) (buf 5 1 p.1 held.length p.2 (held.map bv))
theorem fr_open {w : World} {O : List Res} {L : List Fact} {f : Nat} {held : List UInt8} {over : Bool} (h : Ctx w (fr f held over :: O) L) : ∃ a c, Ctx w (cel f 48 [.slice a held.length c, .bool over] :: buf 5 1 a held.length c (held.map bv) :: O) L := by
  obtain ⟨⟨a, c⟩, h⟩ := h.exr
  exact ⟨a, c, h.sep⟩
theorem fr_shut {w : World} {O : List Res} {L : List Fact} {f : Nat} {held : List UInt8} {over : Bool} {a : Option Addr} {c : Nat} (h : Ctx w (cel f 48 [.slice a held.length c, .bool over] :: buf 5 1 a held.length c (held.map bv) :: O) L) : Ctx w (fr f held over :: O) L :=
  Ctx.mkr (F := fun (p : Option Addr × Nat) => sepR (cel f 48 [.slice p.1 held.length p.2, .bool over]) (buf 5 1 p.1 held.length p.2 (held.map bv))) (a, c) h.join

theorem new_ok {w : World} {O : List Res} {L : List Fact} (h : Ctx w O L) : Ret Try.prog 8 #[] w fun v w' => ∃ f, v = .pointer (some ⟨f, 0, none⟩) ∧ Ctx w' (fr f [] false :: O) L := by
  refine Ret.enter 3 Try.func8 rfl ⟨by simp, by simp [Try.ntmps8]⟩ (by kernel_rfl) ?_
  (simp -dsimp only [vc, Try.ty, Try.en, ↓reduceIte, Nat.reduceLT, Nat.reduceEqDiff, Nat.reduceSub, Nat.reduceAdd, Nat.reduceMul, Int.natCast_one, Int.natCast_zero, Int.reduceEq, Int.reduceLT, Int.reduceLE, Int.reduceAdd, Int.reduceSub, decide_false, decide_true, Int.reduceToNat, sh_zero, Bool.not_true, Bool.not_false, Option.isNone_some, Option.isNone_none, Option.isSome_some, Option.isSome_none, Try.ntmps8]; try with_reducible intro (base : Nat → Value))
  refine RunV.build #[.slice none 0 0, .bool false] (by kernel_rfl) ?_
  (simp -dsimp only [vc, Try.ty, Try.en, ↓reduceIte, Nat.reduceLT, Nat.reduceEqDiff, Nat.reduceSub, Nat.reduceAdd, Nat.reduceMul, Int.natCast_one, Int.natCast_zero, Int.reduceEq, Int.reduceLT, Int.reduceLE, Int.reduceAdd, Int.reduceSub, decide_false, decide_true, Int.reduceToNat, sh_zero, Bool.not_true, Bool.not_false, Option.isNone_some, Option.isNone_none, Option.isSome_some, Option.isSome_none]; try with_reducible intro (base : Nat → Value))
  refine RunV.box h fun f w1 h1 => ?_
  (simp -dsimp only [vc, Try.ty, Try.en, ↓reduceIte, Nat.reduceLT, Nat.reduceEqDiff, Nat.reduceSub, Nat.reduceAdd, Nat.reduceMul, Int.natCast_one, Int.natCast_zero, Int.reduceEq, Int.reduceLT, Int.reduceLE, Int.reduceAdd, Int.reduceSub, decide_false, decide_true, Int.reduceToNat, sh_zero, Bool.not_true, Bool.not_false, Option.isNone_some, Option.isNone_none, Option.isSome_some, Option.isSome_none]; try with_reducible intro (base : Nat → Value))
  refine ResP.one rfl (by decide) ⟨f, rfl, fr_shut (a := none) (c := 0) ?_⟩
  exact (h1.buf_nil _ _).swap

theorem held_ok {w : World} {O : List Res} {L : List Fact} {f : Nat} {held : List UInt8} {over : Bool} (h : Ctx w (fr f held over :: O) L) :
    Ret Try.prog 13 #[.pointer (some ⟨f, 0, none⟩)] w fun v w' => v = .int .i64 held.length ∧ Ctx w' (fr f held over :: O) L := by
  obtain ⟨a, c, h1⟩ := fr_open h
  refine Ret.enter 10 Try.func13 rfl ⟨by simp, by simp [Try.ntmps13]⟩ (by kernel_rfl) ?_
  (simp -dsimp only [vc, Try.ty, Try.en, ↓reduceIte, Nat.reduceLT, Nat.reduceEqDiff, Nat.reduceSub, Nat.reduceAdd, Nat.reduceMul, Int.natCast_one, Int.natCast_zero, Int.reduceEq, Int.reduceLT, Int.reduceLE, Int.reduceAdd, Int.reduceSub, decide_false, decide_true, Int.reduceToNat, sh_zero, Bool.not_true, Bool.not_false, Option.isNone_some, Option.isNone_none, Option.isSome_some, Option.isSome_none, Try.ntmps13]; try with_reducible intro (base : Nat → Value))
  refine RunV.load0 h1.rd_own rfl (by kernel_rfl) ?_
  (simp -dsimp only [vc, Try.ty, Try.en, ↓reduceIte, Nat.reduceLT, Nat.reduceEqDiff, Nat.reduceSub, Nat.reduceAdd, Nat.reduceMul, Int.natCast_one, Int.natCast_zero, Int.reduceEq, Int.reduceLT, Int.reduceLE, Int.reduceAdd, Int.reduceSub, decide_false, decide_true, Int.reduceToNat, sh_zero, Bool.not_true, Bool.not_false, Option.isNone_some, Option.isNone_none, Option.isSome_some, Option.isSome_none]; try with_reducible intro (base : Nat → Value))
  exact ResP.one rfl (by decide) ⟨rfl, h⟩

theorem over_ok {w : World} {O : List Res} {L : List Fact} {f : Nat} {held : List UInt8} {over : Bool} (h : Ctx w (fr f held over :: O) L) :
    Ret Try.prog 15 #[.pointer (some ⟨f, 0, none⟩)] w fun v w' => v = .bool over ∧ Ctx w' (fr f held over :: O) L := by
  obtain ⟨a, c, h1⟩ := fr_open h
  refine Ret.enter 11 Try.func15 rfl ⟨by simp, by simp [Try.ntmps15]⟩ (by kernel_rfl) ?_
  (simp -dsimp only [vc, Try.ty, Try.en, ↓reduceIte, Nat.reduceLT, Nat.reduceEqDiff, Nat.reduceSub, Nat.reduceAdd, Nat.reduceMul, Int.natCast_one, Int.natCast_zero, Int.reduceEq, Int.reduceLT, Int.reduceLE, Int.reduceAdd, Int.reduceSub, decide_false, decide_true, Int.reduceToNat, sh_zero, Bool.not_true, Bool.not_false, Option.isNone_some, Option.isNone_none, Option.isSome_some, Option.isSome_none, Try.ntmps15]; try with_reducible intro (base : Nat → Value))
  refine RunV.load1 h1.rd_own rfl (by kernel_rfl) ?_
  (simp -dsimp only [vc, Try.ty, Try.en, ↓reduceIte, Nat.reduceLT, Nat.reduceEqDiff, Nat.reduceSub, Nat.reduceAdd, Nat.reduceMul, Int.natCast_one, Int.natCast_zero, Int.reduceEq, Int.reduceLT, Int.reduceLE, Int.reduceAdd, Int.reduceSub, decide_false, decide_true, Int.reduceToNat, sh_zero, Bool.not_true, Bool.not_false, Option.isNone_some, Option.isNone_none, Option.isSome_some, Option.isSome_none]; try with_reducible intro (base : Nat → Value))
  exact ResP.one rfl (by decide) ⟨rfl, h⟩

theorem held_nil {w : World} {O : List Res} {L : List Fact} (h : Ctx w O L) : Ret Try.prog 13 #[.pointer none] w fun v w' => v = .int .i64 0 ∧ Ctx w' O L := by
  refine Ret.enter 10 Try.func13 rfl ⟨by simp, by simp [Try.ntmps13]⟩ (by kernel_rfl) ?_
  (simp -dsimp only [vc, Try.ty, Try.en, ↓reduceIte, Nat.reduceLT, Nat.reduceEqDiff, Nat.reduceSub, Nat.reduceAdd, Nat.reduceMul, Int.natCast_one, Int.natCast_zero, Int.reduceEq, Int.reduceLT, Int.reduceLE, Int.reduceAdd, Int.reduceSub, decide_false, decide_true, Int.reduceToNat, sh_zero, Bool.not_true, Bool.not_false, Option.isNone_some, Option.isNone_none, Option.isSome_some, Option.isSome_none, Try.ntmps13]; try with_reducible intro (base : Nat → Value))
  exact ResP.one rfl (by decide) ⟨rfl, h⟩
theorem over_nil {w : World} {O : List Res} {L : List Fact} (h : Ctx w O L) : Ret Try.prog 15 #[.pointer none] w fun v w' => v = .bool false ∧ Ctx w' O L := by
  refine Ret.enter 11 Try.func15 rfl ⟨by simp, by simp [Try.ntmps15]⟩ (by kernel_rfl) ?_
  (simp -dsimp only [vc, Try.ty, Try.en, ↓reduceIte, Nat.reduceLT, Nat.reduceEqDiff, Nat.reduceSub, Nat.reduceAdd, Nat.reduceMul, Int.natCast_one, Int.natCast_zero, Int.reduceEq, Int.reduceLT, Int.reduceLE, Int.reduceAdd, Int.reduceSub, decide_false, decide_true, Int.reduceToNat, sh_zero, Bool.not_true, Bool.not_false, Option.isNone_some, Option.isNone_none, Option.isSome_some, Option.isSome_none, Try.ntmps15]; try with_reducible intro (base : Nat → Value))
  exact ResP.one rfl (by decide) ⟨rfl, h⟩

theorem pieces_fn {w : World} {O : List Res} {L : List Fact} {v : Value} (h : Ctx w O L) : Ret Try.prog 18 #[v] w fun r w' => ∃ b, r = .func (.func 21) #[] #[.pointer (some ⟨b, 0, none⟩)] ∧ Ctx w' (cel b 27 v.cells.toList :: O) L := by
  refine Ret.enter 4 Try.func18 rfl ⟨by simp, by simp [Try.ntmps18]⟩ (by kernel_rfl) ?_
  (simp -dsimp only [vc, Try.ty, Try.en, ↓reduceIte, Nat.reduceLT, Nat.reduceEqDiff, Nat.reduceSub, Nat.reduceAdd, Nat.reduceMul, Int.natCast_one, Int.natCast_zero, Int.reduceEq, Int.reduceLT, Int.reduceLE, Int.reduceAdd, Int.reduceSub, decide_false, decide_true, Int.reduceToNat, sh_zero, Bool.not_true, Bool.not_false, Option.isNone_some, Option.isNone_none, Option.isSome_some, Option.isSome_none, Try.ntmps18]; try with_reducible intro (base : Nat → Value))
  refine RunV.box h fun b w1 h1 => ?_
  (simp -dsimp only [vc, Try.ty, Try.en, ↓reduceIte, Nat.reduceLT, Nat.reduceEqDiff, Nat.reduceSub, Nat.reduceAdd, Nat.reduceMul, Int.natCast_one, Int.natCast_zero, Int.reduceEq, Int.reduceLT, Int.reduceLE, Int.reduceAdd, Int.reduceSub, decide_false, decide_true, Int.reduceToNat, sh_zero, Bool.not_true, Bool.not_false, Option.isNone_some, Option.isNone_none, Option.isSome_some, Option.isSome_none]; try with_reducible intro (base : Nat → Value))
  exact ResP.one rfl (by decide) ⟨b, rfl, h1⟩
end Go.Proofs.Ytloeiefijmbkiaa
