/-
  The frame seat: what the small functions of the law come to. No condition but those in each theorem.
-/
import Derived.Test.YtloeiefijmbkiaaEngH
import Derived.Test.YtloeiefijmbkiaaTy
set_option linter.unusedSimpArgs false
set_option linter.unusedVariables false
set_option linter.unusedSectionVars false
namespace Go.Proofs.Ytloeiefijmbkiaa
open Go.E

theorem same_ok {w : World} {O : List Res} {L : List Fact} {a b : Option Addr} {ca cb : Nat} {la lb : List UInt8} (h : Ctx w O L) (ha : Rdb O L a (la.map bv)) (hb : Rdb O L b (lb.map bv)) (hm : la.length ≤ 2^62) :
    Ret Try.prog 17 #[.slice a la.length ca, .slice b lb.length cb] w fun v w' => v = .bool (decide (la = lb)) ∧ Ctx w' O L := by
  refine Ret.enter 6 Try.func17 rfl ⟨by simp, by simp [Try.ntmps17]⟩ (by kernel_rfl) ?_
  (simp -dsimp only [vc, Try.ty, Try.en, ↓reduceIte, Nat.reduceLT, Nat.reduceEqDiff, Nat.reduceSub, Nat.reduceAdd, Nat.reduceMul, Int.natCast_one, Int.natCast_zero, Int.reduceEq, Int.reduceLT, Int.reduceLE, Int.reduceAdd, Int.reduceSub, decide_false, decide_true, Int.reduceToNat, sh_zero, Bool.not_true, Bool.not_false, Option.isNone_some, Option.isNone_none, Option.isSome_some, Option.isSome_none, Try.ntmps17]; try with_reducible intro (base : Nat → Value))
  refine CondP.split (fun hl => ?_) (fun hl => ?_)
  · (simp -dsimp only [vc, Try.ty, Try.en, ↓reduceIte, Nat.reduceLT, Nat.reduceEqDiff, Nat.reduceSub, Nat.reduceAdd, Nat.reduceMul, Int.natCast_one, Int.natCast_zero, Int.reduceEq, Int.reduceLT, Int.reduceLE, Int.reduceAdd, Int.reduceSub, decide_false, decide_true, Int.reduceToNat, sh_zero, Bool.not_true, Bool.not_false, Option.isNone_some, Option.isNone_none, Option.isSome_some, Option.isSome_none]; try with_reducible intro (base : Nat → Value))
    refine ResP.one rfl (by decide) ⟨?_, h⟩
    have : la ≠ lb := by rintro rfl; simp at hl
    simp [this]
  have hl : la.length = lb.length := by simp at hl; omega
  (simp -dsimp only [vc, Try.ty, Try.en, ↓reduceIte, Nat.reduceLT, Nat.reduceEqDiff, Nat.reduceSub, Nat.reduceAdd, Nat.reduceMul, Int.natCast_one, Int.natCast_zero, Int.reduceEq, Int.reduceLT, Int.reduceLE, Int.reduceAdd, Int.reduceSub, decide_false, decide_true, Int.reduceToNat, sh_zero, Bool.not_true, Bool.not_false, Option.isNone_some, Option.isNone_none, Option.isSome_some, Option.isSome_none]; try with_reducible intro (base : Nat → Value))
  refine SemV.loop (fun loc w => ∃ i : Nat, i ≤ la.length ∧ la.take i = lb.take i ∧ loc = [.slice a la.length ca, .slice b lb.length cb, undef, undef, .bool false, .int .i64 i] ∧ Ctx w O L)
    (fun loc _ => la.length - num (loc.getD 5 undef)) (by kernel_rfl) ⟨0, by omega, by simp, rfl, h⟩ ?_
  rintro loc w ⟨i, hi, hp, rfl, h⟩
  (simp -dsimp only [vc, Try.ty, Try.en, ↓reduceIte, Nat.reduceLT, Nat.reduceEqDiff, Nat.reduceSub, Nat.reduceAdd, Nat.reduceMul, Int.natCast_one, Int.natCast_zero, Int.reduceEq, Int.reduceLT, Int.reduceLE, Int.reduceAdd, Int.reduceSub, decide_false, decide_true, Int.reduceToNat, sh_zero, Bool.not_true, Bool.not_false, Option.isNone_some, Option.isNone_none, Option.isSome_some, Option.isSome_none]; try with_reducible intro (base : Nat → Value))
  refine CondP.split (fun hlt => ?_) (fun hlt => ?_)
  · have hlt : i < la.length := by simpa using hlt
    (simp -dsimp only [vc, Try.ty, Try.en, ↓reduceIte, Nat.reduceLT, Nat.reduceEqDiff, Nat.reduceSub, Nat.reduceAdd, Nat.reduceMul, Int.natCast_one, Int.natCast_zero, Int.reduceEq, Int.reduceLT, Int.reduceLE, Int.reduceAdd, Int.reduceSub, decide_false, decide_true, Int.reduceToNat, sh_zero, Bool.not_true, Bool.not_false, Option.isNone_some, Option.isNone_none, Option.isSome_some, Option.isSome_none]; try with_reducible intro (base : Nat → Value))
    refine SemV.draw (fun w => Ctx w O L) [(0, true), (1, true), (2, true), (3, true), (4, true), (5, true), (6, true), (7, true), (8, true)] Try.mixed (by kernel_rfl) (fun w' e => h.same e) ?_
    intro _ w' e
    have h := h.same e
    (simp -dsimp only [vc, Try.ty, Try.en, ↓reduceIte, Nat.reduceLT, Nat.reduceEqDiff, Nat.reduceSub, Nat.reduceAdd, Nat.reduceMul, Int.natCast_one, Int.natCast_zero, Int.reduceEq, Int.reduceLT, Int.reduceLE, Int.reduceAdd, Int.reduceSub, decide_false, decide_true, Int.reduceToNat, sh_zero, Bool.not_true, Bool.not_false, Option.isNone_some, Option.isNone_none, Option.isSome_some, Option.isSome_none]; try with_reducible intro (base : Nat → Value))
    refine ⟨⟨by omega, by omega, (ha.rd h).some (by simp; omega)⟩, ?_⟩
    refine FloatP.load1 (fun w h => ha.rd h) (bv_lt hlt) (by kernel_rfl) ?_
    (simp -dsimp only [vc, Try.ty, Try.en, ↓reduceIte, Nat.reduceLT, Nat.reduceEqDiff, Nat.reduceSub, Nat.reduceAdd, Nat.reduceMul, Int.natCast_one, Int.natCast_zero, Int.reduceEq, Int.reduceLT, Int.reduceLE, Int.reduceAdd, Int.reduceSub, decide_false, decide_true, Int.reduceToNat, sh_zero, Bool.not_true, Bool.not_false, Option.isNone_some, Option.isNone_none, Option.isSome_some, Option.isSome_none]; try with_reducible intro (base : Nat → Value))
    refine ⟨⟨by omega, by omega, (hb.rd h).some (by simp; omega)⟩, ?_⟩
    refine FloatP.load1 (fun w h => hb.rd h) (bv_lt (by omega)) (by kernel_rfl) ?_
    (simp -dsimp only [vc, Try.ty, Try.en, ↓reduceIte, Nat.reduceLT, Nat.reduceEqDiff, Nat.reduceSub, Nat.reduceAdd, Nat.reduceMul, Int.natCast_one, Int.natCast_zero, Int.reduceEq, Int.reduceLT, Int.reduceLE, Int.reduceAdd, Int.reduceSub, decide_false, decide_true, Int.reduceToNat, sh_zero, Bool.not_true, Bool.not_false, Option.isNone_some, Option.isNone_none, Option.isSome_some, Option.isSome_none, bv]; try with_reducible intro (base : Nat → Value))
    refine CondP.split (fun hne => ?_) (fun hne => ?_)
    · (simp -dsimp only [vc, Try.ty, Try.en, ↓reduceIte, Nat.reduceLT, Nat.reduceEqDiff, Nat.reduceSub, Nat.reduceAdd, Nat.reduceMul, Int.natCast_one, Int.natCast_zero, Int.reduceEq, Int.reduceLT, Int.reduceLE, Int.reduceAdd, Int.reduceSub, decide_false, decide_true, Int.reduceToNat, sh_zero, Bool.not_true, Bool.not_false, Option.isNone_some, Option.isNone_none, Option.isSome_some, Option.isSome_none]; try with_reducible intro (base : Nat → Value))
      refine ResP.one rfl (by decide) ⟨?_, h⟩
      have : la ≠ lb := by rintro rfl; simp at hne
      simp [this]
    · have hne : la[i] = lb[i] := bv_inj (by simpa using hne)
      (simp -dsimp only [vc, Try.ty, Try.en, ↓reduceIte, Nat.reduceLT, Nat.reduceEqDiff, Nat.reduceSub, Nat.reduceAdd, Nat.reduceMul, Int.natCast_one, Int.natCast_zero, Int.reduceEq, Int.reduceLT, Int.reduceLE, Int.reduceAdd, Int.reduceSub, decide_false, decide_true, Int.reduceToNat, sh_zero, Bool.not_true, Bool.not_false, Option.isNone_some, Option.isNone_none, Option.isSome_some, Option.isSome_none]; try with_reducible intro (base : Nat → Value))
      refine ⟨⟨i + 1, by omega, ?_, by rw [IntWalk.i64_in _ (by omega)]; rfl, h⟩, ?_⟩
      · rw [List.take_succ_eq_append_getElem hlt, List.take_succ_eq_append_getElem (by omega), hp, hne]
      · rw [IntWalk.i64_in _ (by omega)]
        simp [num]; omega
  · have hge : i = la.length := by simp at hlt; omega
    (simp -dsimp only [vc, Try.ty, Try.en, ↓reduceIte, Nat.reduceLT, Nat.reduceEqDiff, Nat.reduceSub, Nat.reduceAdd, Nat.reduceMul, Int.natCast_one, Int.natCast_zero, Int.reduceEq, Int.reduceLT, Int.reduceLE, Int.reduceAdd, Int.reduceSub, decide_false, decide_true, Int.reduceToNat, sh_zero, Bool.not_true, Bool.not_false, Option.isNone_some, Option.isNone_none, Option.isSome_some, Option.isSome_none]; try with_reducible intro (base : Nat → Value))
    refine ResP.one rfl (by decide) ⟨?_, h⟩
    have : la = lb := by rw [← List.take_of_length_le (l := la) (i := i) (by omega), hp, List.take_of_length_le (by omega)]
    simp [this]

theorem sames_ok {w : World} {O : List Res} {L : List Fact} {a b : Option Addr} {ca cb : Nat} {la lb : List (List UInt8)} (h : Ctx w O L) (ha : rows a la ∈ L) (hb : rows b lb ∈ L) (hm : la.length ≤ 2^62) (hm' : ∀ l ∈ la, l.length ≤ 2^62) :
    Ret Try.prog 16 #[.slice a la.length ca, .slice b lb.length cb] w fun v w' => v = .bool (decide (la = lb)) ∧ Ctx w' O L := by
  refine Ret.enter 6 Try.func16 rfl ⟨by simp, by simp [Try.ntmps16]⟩ (by kernel_rfl) ?_
  (simp -dsimp only [vc, Try.ty, Try.en, ↓reduceIte, Nat.reduceLT, Nat.reduceEqDiff, Nat.reduceSub, Nat.reduceAdd, Nat.reduceMul, Int.natCast_one, Int.natCast_zero, Int.reduceEq, Int.reduceLT, Int.reduceLE, Int.reduceAdd, Int.reduceSub, decide_false, decide_true, Int.reduceToNat, sh_zero, Bool.not_true, Bool.not_false, Option.isNone_some, Option.isNone_none, Option.isSome_some, Option.isSome_none, Try.ntmps16]; try with_reducible intro (base : Nat → Value))
  refine CondP.split (fun hl => ?_) (fun hl => ?_)
  · (simp -dsimp only [vc, Try.ty, Try.en, ↓reduceIte, Nat.reduceLT, Nat.reduceEqDiff, Nat.reduceSub, Nat.reduceAdd, Nat.reduceMul, Int.natCast_one, Int.natCast_zero, Int.reduceEq, Int.reduceLT, Int.reduceLE, Int.reduceAdd, Int.reduceSub, decide_false, decide_true, Int.reduceToNat, sh_zero, Bool.not_true, Bool.not_false, Option.isNone_some, Option.isNone_none, Option.isSome_some, Option.isSome_none]; try with_reducible intro (base : Nat → Value))
    refine ResP.one rfl (by decide) ⟨?_, h⟩
    have : la ≠ lb := by rintro rfl; simp at hl
    simp [this]
  have hl : la.length = lb.length := by simp at hl; omega
  obtain ⟨ga, hga, h⟩ := h.open_rows ha
  obtain ⟨gb, hgb, h⟩ := h.open_rows (.tail _ (.tail _ hb))
  (simp -dsimp only [vc, Try.ty, Try.en, ↓reduceIte, Nat.reduceLT, Nat.reduceEqDiff, Nat.reduceSub, Nat.reduceAdd, Nat.reduceMul, Int.natCast_one, Int.natCast_zero, Int.reduceEq, Int.reduceLT, Int.reduceLE, Int.reduceAdd, Int.reduceSub, decide_false, decide_true, Int.reduceToNat, sh_zero, Bool.not_true, Bool.not_false, Option.isNone_some, Option.isNone_none, Option.isSome_some, Option.isSome_none]; try with_reducible intro (base : Nat → Value))
  refine SemV.loop (fun loc w => ∃ i : Nat, i ≤ la.length ∧ la.take i = lb.take i ∧ loc = [.slice a la.length ca, .slice b lb.length cb, undef, undef, .bool false, .int .i64 i] ∧ Ctx w O (arr b (List.zipWith hdr gb lb) :: rowsF gb lb :: arr a (List.zipWith hdr ga la) :: rowsF ga la :: L))
    (fun loc _ => la.length - num (loc.getD 5 undef)) (by kernel_rfl) ⟨0, by omega, by simp, rfl, h⟩ ?_
  rintro loc w ⟨i, hi, hp, rfl, h⟩
  (simp -dsimp only [vc, Try.ty, Try.en, ↓reduceIte, Nat.reduceLT, Nat.reduceEqDiff, Nat.reduceSub, Nat.reduceAdd, Nat.reduceMul, Int.natCast_one, Int.natCast_zero, Int.reduceEq, Int.reduceLT, Int.reduceLE, Int.reduceAdd, Int.reduceSub, decide_false, decide_true, Int.reduceToNat, sh_zero, Bool.not_true, Bool.not_false, Option.isNone_some, Option.isNone_none, Option.isSome_some, Option.isSome_none]; try with_reducible intro (base : Nat → Value))
  refine CondP.split (fun hlt => ?_) (fun hlt => ?_)
  · have hlt : i < la.length := by simpa using hlt
    (simp -dsimp only [vc, Try.ty, Try.en, ↓reduceIte, Nat.reduceLT, Nat.reduceEqDiff, Nat.reduceSub, Nat.reduceAdd, Nat.reduceMul, Int.natCast_one, Int.natCast_zero, Int.reduceEq, Int.reduceLT, Int.reduceLE, Int.reduceAdd, Int.reduceSub, decide_false, decide_true, Int.reduceToNat, sh_zero, Bool.not_true, Bool.not_false, Option.isNone_some, Option.isNone_none, Option.isSome_some, Option.isSome_none]; try with_reducible intro (base : Nat → Value))
    refine SemV.draw (fun w => Ctx w O (arr b (List.zipWith hdr gb lb) :: rowsF gb lb :: arr a (List.zipWith hdr ga la) :: rowsF ga la :: L)) [(0, true), (1, true), (2, true), (3, true), (4, true), (5, true), (6, true), (7, true), (8, false), (9, true)] Try.mixed (by kernel_rfl) (fun w' e => h.same e) ?_
    intro _ w' e
    have h := h.same e
    (simp -dsimp only [vc, Try.ty, Try.en, ↓reduceIte, Nat.reduceLT, Nat.reduceEqDiff, Nat.reduceSub, Nat.reduceAdd, Nat.reduceMul, Int.natCast_one, Int.natCast_zero, Int.reduceEq, Int.reduceLT, Int.reduceLE, Int.reduceAdd, Int.reduceSub, decide_false, decide_true, Int.reduceToNat, sh_zero, Bool.not_true, Bool.not_false, Option.isNone_some, Option.isNone_none, Option.isSome_some, Option.isSome_none]; try with_reducible intro (base : Nat → Value))
    refine ⟨⟨by omega, by omega, (h.rd mem2).some (by simp; omega)⟩, ?_⟩
    refine FloatP.load1 (fun w h => h.rd mem2) (zip_hdr_get hga hlt) (by kernel_rfl) ?_
    (simp -dsimp only [vc, Try.ty, Try.en, ↓reduceIte, Nat.reduceLT, Nat.reduceEqDiff, Nat.reduceSub, Nat.reduceAdd, Nat.reduceMul, Int.natCast_one, Int.natCast_zero, Int.reduceEq, Int.reduceLT, Int.reduceLE, Int.reduceAdd, Int.reduceSub, decide_false, decide_true, Int.reduceToNat, sh_zero, Bool.not_true, Bool.not_false, Option.isNone_some, Option.isNone_none, Option.isSome_some, Option.isSome_none]; try with_reducible intro (base : Nat → Value))
    refine ⟨⟨by omega, by omega, (h.rd mem0).some (by simp; omega)⟩, ?_⟩
    refine FloatP.load1 (fun w h => h.rd mem0) (zip_hdr_get hgb (by omega)) (by kernel_rfl) ?_
    (simp -dsimp only [vc, Try.ty, Try.en, ↓reduceIte, Nat.reduceLT, Nat.reduceEqDiff, Nat.reduceSub, Nat.reduceAdd, Nat.reduceMul, Int.natCast_one, Int.natCast_zero, Int.reduceEq, Int.reduceLT, Int.reduceLE, Int.reduceAdd, Int.reduceSub, decide_false, decide_true, Int.reduceToNat, sh_zero, Bool.not_true, Bool.not_false, Option.isNone_some, Option.isNone_none, Option.isSome_some, Option.isSome_none, hdr]; try with_reducible intro (base : Nat → Value))
    have h1 := h.rowsF_get (i := i) mem3 (List.getElem?_eq_getElem (by omega)) (List.getElem?_eq_getElem hlt)
    have h2 := h1.rowsF_get (i := i) mem2 (List.getElem?_eq_getElem (by omega)) (List.getElem?_eq_getElem (by omega))
    refine (same_ok h2 (.of_arr mem1) (.of_arr mem0) (hm' _ (List.getElem_mem _))).mono ?_
    rintro v w1 ⟨rfl, h3⟩
    have h := h3.tailF.tailF
    (simp -dsimp only [vc, Try.ty, Try.en, ↓reduceIte, Nat.reduceLT, Nat.reduceEqDiff, Nat.reduceSub, Nat.reduceAdd, Nat.reduceMul, Int.natCast_one, Int.natCast_zero, Int.reduceEq, Int.reduceLT, Int.reduceLE, Int.reduceAdd, Int.reduceSub, decide_false, decide_true, Int.reduceToNat, sh_zero, Bool.not_true, Bool.not_false, Option.isNone_some, Option.isNone_none, Option.isSome_some, Option.isSome_none]; try with_reducible intro (base : Nat → Value))
    refine ⟨h, ?_⟩
    refine CondP.split (fun hne => ?_) (fun hne => ?_)
    · (simp -dsimp only [vc, Try.ty, Try.en, ↓reduceIte, Nat.reduceLT, Nat.reduceEqDiff, Nat.reduceSub, Nat.reduceAdd, Nat.reduceMul, Int.natCast_one, Int.natCast_zero, Int.reduceEq, Int.reduceLT, Int.reduceLE, Int.reduceAdd, Int.reduceSub, decide_false, decide_true, Int.reduceToNat, sh_zero, Bool.not_true, Bool.not_false, Option.isNone_some, Option.isNone_none, Option.isSome_some, Option.isSome_none]; try with_reducible intro (base : Nat → Value))
      refine ResP.one rfl (by decide) ⟨?_, h.tailF.tailF.tailF.tailF⟩
      have : la ≠ lb := by rintro rfl; simp at hne
      simp [this]
    · have hne : la[i] = lb[i] := by simpa using hne
      (simp -dsimp only [vc, Try.ty, Try.en, ↓reduceIte, Nat.reduceLT, Nat.reduceEqDiff, Nat.reduceSub, Nat.reduceAdd, Nat.reduceMul, Int.natCast_one, Int.natCast_zero, Int.reduceEq, Int.reduceLT, Int.reduceLE, Int.reduceAdd, Int.reduceSub, decide_false, decide_true, Int.reduceToNat, sh_zero, Bool.not_true, Bool.not_false, Option.isNone_some, Option.isNone_none, Option.isSome_some, Option.isSome_none]; try with_reducible intro (base : Nat → Value))
      refine ⟨⟨i + 1, by omega, ?_, by rw [IntWalk.i64_in _ (by omega)]; rfl, h⟩, ?_⟩
      · rw [List.take_succ_eq_append_getElem hlt, List.take_succ_eq_append_getElem (by omega), hp, hne]
      · rw [IntWalk.i64_in _ (by omega)]
        simp [num]; omega
  · have hge : i = la.length := by simp at hlt; omega
    (simp -dsimp only [vc, Try.ty, Try.en, ↓reduceIte, Nat.reduceLT, Nat.reduceEqDiff, Nat.reduceSub, Nat.reduceAdd, Nat.reduceMul, Int.natCast_one, Int.natCast_zero, Int.reduceEq, Int.reduceLT, Int.reduceLE, Int.reduceAdd, Int.reduceSub, decide_false, decide_true, Int.reduceToNat, sh_zero, Bool.not_true, Bool.not_false, Option.isNone_some, Option.isNone_none, Option.isSome_some, Option.isSome_none]; try with_reducible intro (base : Nat → Value))
    refine ResP.one rfl (by decide) ⟨?_, h.tailF.tailF.tailF.tailF⟩
    have : la = lb := by rw [← List.take_of_length_le (l := la) (i := i) (by omega), hp, List.take_of_length_le (by omega)]
    simp [this]

theorem copied_ok {w : World} {O : List Res} {L : List Fact} {a : Option Addr} {c : Nat} {l : List UInt8} (h : Ctx w O L) (ha : Rdb O L a (l.map bv)) (hm : l.length ≤ 2^40) :
    Ret Try.prog 10 #[.slice a l.length c] w fun v w' => ∃ b d, v = .slice b l.length d ∧ Ctx w' (buf 5 1 b l.length d (l.map bv) :: O) L := by
  refine Ret.enter 3 Try.func10 rfl ⟨by simp, by simp [Try.ntmps10]⟩ (by kernel_rfl) ?_
  (simp -dsimp only [vc, Try.ty, Try.en, ↓reduceIte, Nat.reduceLT, Nat.reduceEqDiff, Nat.reduceSub, Nat.reduceAdd, Nat.reduceMul, Int.natCast_one, Int.natCast_zero, Int.reduceEq, Int.reduceLT, Int.reduceLE, Int.reduceAdd, Int.reduceSub, decide_false, decide_true, Int.reduceToNat, sh_zero, Bool.not_true, Bool.not_false, Option.isNone_some, Option.isNone_none, Option.isSome_some, Option.isSome_none, Try.ntmps10]; try with_reducible intro (base : Nat → Value))
  refine RunV.lit 5 (.int .u8 0) 1 (len := 0) (parts := []) [] h (by kernel_rfl) (by kernel_rfl) (by kernel_rfl) (by decide) (by decide) (by kernel_rfl) fun b w1 h1 => ?_
  (simp -dsimp only [vc, Try.ty, Try.en, ↓reduceIte, Nat.reduceLT, Nat.reduceEqDiff, Nat.reduceSub, Nat.reduceAdd, Nat.reduceMul, Int.natCast_one, Int.natCast_zero, Int.reduceEq, Int.reduceLT, Int.reduceLE, Int.reduceAdd, Int.reduceSub, decide_false, decide_true, Int.reduceToNat, sh_zero, Bool.not_true, Bool.not_false, Option.isNone_some, Option.isNone_none, Option.isSome_some, Option.isSome_none]; try with_reducible intro (base : Nat → Value))
  refine RunV.append (.int .u8 0) (h1.buf_cel 1 0 rfl (by decide)) ((ha.cons _).rd h1) (by simp) (by simp [bv_one]) (by kernel_rfl) (by kernel_rfl) (by decide) (by kernel_rfl) rfl ?_ ?_ fun a' c' w2 h2 => ?_
  · simp [show tby Try.prog 5 = 1 from (by kernel_rfl)]; omega
  · simp only [maxLen]; omega
  · (simp -dsimp only [vc, Try.ty, Try.en, ↓reduceIte, Nat.reduceLT, Nat.reduceEqDiff, Nat.reduceSub, Nat.reduceAdd, Nat.reduceMul, Int.natCast_one, Int.natCast_zero, Int.reduceEq, Int.reduceLT, Int.reduceLE, Int.reduceAdd, Int.reduceSub, decide_false, decide_true, Int.reduceToNat, sh_zero, Bool.not_true, Bool.not_false, Option.isNone_some, Option.isNone_none, Option.isSome_some, Option.isSome_none]; try with_reducible intro (base : Nat → Value))
    refine ResP.one rfl (by decide) ⟨a', c', by simp, ?_⟩
    simpa using h2
end Go.Proofs.Ytloeiefijmbkiaa
