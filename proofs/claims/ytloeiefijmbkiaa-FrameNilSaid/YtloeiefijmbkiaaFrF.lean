/-
  The frame seat: the framer's Feed. No condition but those in each theorem.
-/
import Derived.Test.YtloeiefijmbkiaaFrE
set_option linter.unusedSimpArgs false
set_option linter.unusedVariables false
set_option linter.unusedSectionVars false
namespace Go.Proofs.Ytloeiefijmbkiaa
open Go.E

/-- the machine, by pieces -/
def eat : List UInt8 → List (List UInt8 × Bool) → List (List UInt8) × List UInt8 × Bool
  | h, [] => ([], h, false)
  | h, (p, e) :: q => if 65536 < h.length + p.length then ([], [], true) else if e then ((h ++ p) :: (eat [] q).1, (eat [] q).2) else eat (h ++ p) q

theorem feed_eat : ∀ (l h : List UInt8), h.length ≤ 65536 → feed h l = eat h (pcs l)
  | [], h, _ => rfl
  | c :: r, h, hh => by
    rw [feed, pcs]
    split
    · rw [eat, if_neg (by simp; omega), if_pos rfl, ← feed_eat r [] (by simp), List.append_nil]
    · split
      · rename_i hn
        cases hp : pcs r with
        | nil => simp only; rw [eat, if_pos (by simp; omega)]
        | cons x q => obtain ⟨p, e⟩ := x; simp only; rw [eat, if_pos (by simp; omega)]
      · rw [feed_eat r (h ++ [c]) (by simp; omega)]
        cases hp : pcs r with
        | nil => simp only; rw [eat, eat, if_neg (by simp; omega), if_neg (by simp), eat]
        | cons x q =>
          obtain ⟨p, e⟩ := x
          simp only [eat, List.length_append, List.length_cons, List.length_nil, List.append_assoc, List.cons_append, List.nil_append]
          rw [show h.length + (0 + 1) + p.length = h.length + (p.length + 1) by omega]
theorem pcs_le : ∀ (l : List UInt8), (pcs l).length ≤ l.length ∧ ∀ x ∈ pcs l, x.1.length ≤ l.length
  | [] => by simp [pcs]
  | c :: r => by
    obtain ⟨h1, h2⟩ := pcs_le r
    rw [pcs]
    split
    · refine ⟨by simpa using h1, fun x hx => ?_⟩
      simp only [List.mem_cons] at hx
      rcases hx with rfl | hx
      · simp
      · have := h2 x hx; simp; omega
    · split
      · simp
      · rename_i p e q hp
        rw [hp] at h1 h2
        refine ⟨by simp at h1 ⊢; omega, fun x hx => ?_⟩
        simp only [List.mem_cons] at hx
        rcases hx with rfl | hx
        · have := h2 (p, e) (by simp); simp at this ⊢; omega
        · have := h2 x (by simp [hx]); simp; omega

structure FeedZ where
  ls : List (List UInt8)
  h : List UInt8
  gs : List (Option Addr × Nat)
  la : Option Addr
  lc : Nat
/-- between two pieces -/
def feedU (f b4 b5 : Nat) (held : List UInt8) (pre : List (List UInt8 × Bool)) (z : FeedZ) : List Res × List Fact :=
  ([fr f z.h false, buf 27 1 z.la z.ls.length z.lc (List.zipWith hdr z.gs z.ls), cel b4 30 [.slice z.la z.ls.length z.lc], cel b5 36 [.int .i64 0]],
    [truth (z.gs.length = z.ls.length ∧ z.h.length ≤ 65536 ∧ z.ls.length ≤ pre.length ∧ ∀ rest, eat held (pre ++ rest) = (z.ls ++ (eat z.h rest).1, (eat z.h rest).2)), rowsF z.gs z.ls])
def feedX (f b4 b5 : Nat) (held : List UInt8) (c : Code) (pre : List (List UInt8 × Bool)) (z : FeedZ) : List Res × List Fact :=
  ([fr f [] true, buf 27 1 z.la z.ls.length z.lc (List.zipWith hdr z.gs z.ls), cel b4 30 [.slice z.la z.ls.length z.lc], cel b5 36 [.int .i64 6]],
    [truth (c = .exit 1 ∧ z.gs.length = z.ls.length ∧ ∀ rest, eat held (pre ++ rest) = (z.ls, [], true)), rowsF z.gs z.ls])

theorem feed_ok {w : World} {O : List Res} {L : List Fact} {f c : Nat} {held l : List UInt8} {a : Option Addr} (h : Ctx w (fr f held false :: O) L) (hh : held.length ≤ 65536) (ha : Rdb O L a (l.map bv)) (hc : l.length ≤ c) (hm : l.length ≤ 2^38) :
    Ret Try.prog 11 #[.pointer (some ⟨f, 0, none⟩), .slice a l.length c] w fun v w' => ∃ la lc, v = .tuple #[.slice la (feed held l).1.length lc, .int .i64 (if (feed held l).2.2 then 6 else 0)] ∧ (feed held l).1.length ≤ lc ∧
      Ctx w' (fr f (feed held l).2.1 (feed held l).2.2 :: O) (rows la (feed held l).1 :: L) := by
  refine Ret.enter 20 Try.func11 rfl ⟨by simp, by simp [Try.ntmps11]⟩ (by kernel_rfl) ?_
  (simp -dsimp only [vc, Try.ty, Try.en, ↓reduceIte, Nat.reduceLT, Nat.reduceEqDiff, Nat.reduceSub, Nat.reduceAdd, Nat.reduceMul, Int.natCast_one, Int.natCast_zero, Int.reduceEq, Int.reduceLT, Int.reduceLE, Int.reduceAdd, Int.reduceSub, decide_false, decide_true, Int.reduceToNat, sh_zero, Bool.not_true, Bool.not_false, Option.isNone_some, Option.isNone_none, Option.isSome_some, Option.isSome_none, Try.ntmps11]; try with_reducible intro (base : Nat → Value))
  refine RunV.boxK h fun q w1 h1 => ?_
  (simp -dsimp only [vc, Try.ty, Try.en, ↓reduceIte, Nat.reduceLT, Nat.reduceEqDiff, Nat.reduceSub, Nat.reduceAdd, Nat.reduceMul, Int.natCast_one, Int.natCast_zero, Int.reduceEq, Int.reduceLT, Int.reduceLE, Int.reduceAdd, Int.reduceSub, decide_false, decide_true, Int.reduceToNat, sh_zero, Bool.not_true, Bool.not_false, Option.isNone_some, Option.isNone_none, Option.isSome_some, Option.isSome_none]; try with_reducible intro (base : Nat → Value))
  refine RunV.alloc (.slice none 0 0) h1 (by kernel_rfl) fun b4 w2 h2 => ?_
  (simp -dsimp only [vc, Try.ty, Try.en, ↓reduceIte, Nat.reduceLT, Nat.reduceEqDiff, Nat.reduceSub, Nat.reduceAdd, Nat.reduceMul, Int.natCast_one, Int.natCast_zero, Int.reduceEq, Int.reduceLT, Int.reduceLE, Int.reduceAdd, Int.reduceSub, decide_false, decide_true, Int.reduceToNat, sh_zero, Bool.not_true, Bool.not_false, Option.isNone_some, Option.isNone_none, Option.isSome_some, Option.isSome_none]; try with_reducible intro (base : Nat → Value))
  refine RunV.alloc (.int .i64 0) h2 (by kernel_rfl) fun b5 w3 h3 => ?_
  (simp -dsimp only [vc, Try.ty, Try.en, ↓reduceIte, Nat.reduceLT, Nat.reduceEqDiff, Nat.reduceSub, Nat.reduceAdd, Nat.reduceMul, Int.natCast_one, Int.natCast_zero, Int.reduceEq, Int.reduceLT, Int.reduceLE, Int.reduceAdd, Int.reduceSub, decide_false, decide_true, Int.reduceToNat, sh_zero, Bool.not_true, Bool.not_false, Option.isNone_some, Option.isNone_none, Option.isSome_some, Option.isSome_none]; try with_reducible intro (base : Nat → Value))
  refine RunV.load0 (h3.rd mem0) rfl (by kernel_rfl) ?_
  (simp -dsimp only [vc, Try.ty, Try.en, ↓reduceIte, Nat.reduceLT, Nat.reduceEqDiff, Nat.reduceSub, Nat.reduceAdd, Nat.reduceMul, Int.natCast_one, Int.natCast_zero, Int.reduceEq, Int.reduceLT, Int.reduceLE, Int.reduceAdd, Int.reduceSub, decide_false, decide_true, Int.reduceToNat, sh_zero, Bool.not_true, Bool.not_false, Option.isNone_some, Option.isNone_none, Option.isSome_some, Option.isSome_none]; try with_reducible intro (base : Nat → Value))
  refine RunV.load0 (h3.rd mem0) rfl (by kernel_rfl) ?_
  (simp -dsimp only [vc, Try.ty, Try.en, ↓reduceIte, Nat.reduceLT, Nat.reduceEqDiff, Nat.reduceSub, Nat.reduceAdd, Nat.reduceMul, Int.natCast_one, Int.natCast_zero, Int.reduceEq, Int.reduceLT, Int.reduceLE, Int.reduceAdd, Int.reduceSub, decide_false, decide_true, Int.reduceToNat, sh_zero, Bool.not_true, Bool.not_false, Option.isNone_some, Option.isNone_none, Option.isSome_some, Option.isSome_none]; try with_reducible intro (base : Nat → Value))
  obtain ⟨ha0, hc0, h4⟩ := fr_open h3.to2
  refine RunV.load1 h4.rd_own rfl (by kernel_rfl) ?_
  (simp -dsimp only [vc, Try.ty, Try.en, ↓reduceIte, Nat.reduceLT, Nat.reduceEqDiff, Nat.reduceSub, Nat.reduceAdd, Nat.reduceMul, Int.natCast_one, Int.natCast_zero, Int.reduceEq, Int.reduceLT, Int.reduceLE, Int.reduceAdd, Int.reduceSub, decide_false, decide_true, Int.reduceToNat, sh_zero, Bool.not_true, Bool.not_false, Option.isNone_some, Option.isNone_none, Option.isSome_some, Option.isSome_none]; try with_reducible intro (base : Nat → Value))
  refine (pieces_fn h3).mono ?_
  rintro v w4 ⟨bb, rfl, h5⟩
  (simp -dsimp only [vc, Try.ty, Try.en, ↓reduceIte, Nat.reduceLT, Nat.reduceEqDiff, Nat.reduceSub, Nat.reduceAdd, Nat.reduceMul, Int.natCast_one, Int.natCast_zero, Int.reduceEq, Int.reduceLT, Int.reduceLE, Int.reduceAdd, Int.reduceSub, decide_false, decide_true, Int.reduceToNat, sh_zero, Bool.not_true, Bool.not_false, Option.isNone_some, Option.isNone_none, Option.isSome_some, Option.isSome_none]; try with_reducible intro (base : Nat → Value))
  have hL1 : ∀ φ ∈ L, φ ∈ (arr (some q) [.pointer (some ⟨f, 0, none⟩)] :: L) := fun φ hφ => by simp [hφ]
  refine SemV.range (α := List UInt8 × Bool) (ζ := FeedZ) (Oi := [cel bb 27 [.slice a l.length c]]) (O := O) (L := arr (some q) [.pointer (some ⟨f, 0, none⟩)] :: L) (A := pieceA) (feedU f b4 b5 held) (feedX f b4 b5 held) ⟨[], held, [], none, 0⟩
    (fun _ => rfl) (by kernel_rfl) (by kernel_rfl) ?_ ?_ (pieces_ok (ha.more hL1) hc (by omega)) ?_ ?_ ?_ ?_
  · rintro x args r O L ⟨p, cp, h1, h2, h3⟩
    exact ⟨p, cp, h1, h2, h3.cons r⟩
  · rintro x args O L ⟨p, cp, rfl, h2, h3⟩
    rfl
  · simp only [feedU, List.cons_append, List.nil_append]
    exact Ctx.tr (Ctx.rowsF_nil (Ctx.ord [4, 0, 2, 1] (h5.buf_nil 27 1))) ⟨rfl, hh, by simp, fun rest => by simp⟩
  · intro lv pre x args z w Oy L' hpre hL' h hx
    obtain ⟨xp, xe⟩ := x
    obtain ⟨p, cp, rfl, hcp, hp⟩ := hx
    simp only [feedU, List.cons_append, List.nil_append] at h
    obtain ⟨⟨hg, hzh, hzl, hz⟩, h⟩ := h.true
    simp only [putsK, List.zip_cons_cons, List.zip_nil_right, List.zip_nil_left]
    (simp -dsimp only [vc, Try.ty, Try.en, ↓reduceIte, Nat.reduceLT, Nat.reduceEqDiff, Nat.reduceSub, Nat.reduceAdd, Nat.reduceMul, Int.natCast_one, Int.natCast_zero, Int.reduceEq, Int.reduceLT, Int.reduceLE, Int.reduceAdd, Int.reduceSub, decide_false, decide_true, Int.reduceToNat, sh_zero, Bool.not_true, Bool.not_false, Option.isNone_some, Option.isNone_none, Option.isSome_some, Option.isSome_none]; try with_reducible intro (base : Nat → Value))
    refine ⟨[_, _, _, _], [_], h, fun w2 O2 h hx => ?_⟩
    obtain ⟨p', cp', hx1, _, hp⟩ := hx
    cases hx1
    have h : Ctx w2 (fr f z.h false :: buf 27 1 z.la z.ls.length z.lc (List.zipWith hdr z.gs z.ls) :: cel b4 30 [.slice z.la z.ls.length z.lc] :: cel b5 36 [.int .i64 0] :: (O2 ++ O)) (rowsF z.gs z.ls :: L') := h
    have hq : arr (some q) [.pointer (some ⟨f, 0, none⟩)] ∈ (rowsF z.gs z.ls :: L') := .tail _ (hL' _ mem0)
    have hxl := pcs_le l
    have hpl := hpre.length_le
    have hx1 : xp.length ≤ l.length := hxl.2 (xp, xe) (hpre.subset (by simp))
    simp only [List.length_append, List.length_singleton] at hpl
    intro base
    refine RunV.load0 (h.rd hq) rfl (by kernel_rfl) ?_
    (simp -dsimp only [vc, Try.ty, Try.en, ↓reduceIte, Nat.reduceLT, Nat.reduceEqDiff, Nat.reduceSub, Nat.reduceAdd, Nat.reduceMul, Int.natCast_one, Int.natCast_zero, Int.reduceEq, Int.reduceLT, Int.reduceLE, Int.reduceAdd, Int.reduceSub, decide_false, decide_true, Int.reduceToNat, sh_zero, Bool.not_true, Bool.not_false, Option.isNone_some, Option.isNone_none, Option.isSome_some, Option.isSome_none]; try with_reducible intro (base : Nat → Value))
    obtain ⟨hb, hbc, h4⟩ := fr_open h
    refine RunV.load0 h4.rd_own rfl (by kernel_rfl) ?_
    (simp -dsimp only [vc, Try.ty, Try.en, ↓reduceIte, Nat.reduceLT, Nat.reduceEqDiff, Nat.reduceSub, Nat.reduceAdd, Nat.reduceMul, Int.natCast_one, Int.natCast_zero, Int.reduceEq, Int.reduceLT, Int.reduceLE, Int.reduceAdd, Int.reduceSub, decide_false, decide_true, Int.reduceToNat, sh_zero, Bool.not_true, Bool.not_false, Option.isNone_some, Option.isNone_none, Option.isSome_some, Option.isSome_none]; try with_reducible intro (base : Nat → Value))
    rw [IntWalk.i64_in _ (by omega)]
    refine CondP.split (fun hov => ?_) (fun hov => ?_)
    · have hov : 65536 < z.h.length + xp.length := by simp at hov; omega
      (simp -dsimp only [vc, Try.ty, Try.en, ↓reduceIte, Nat.reduceLT, Nat.reduceEqDiff, Nat.reduceSub, Nat.reduceAdd, Nat.reduceMul, Int.natCast_one, Int.natCast_zero, Int.reduceEq, Int.reduceLT, Int.reduceLE, Int.reduceAdd, Int.reduceSub, decide_false, decide_true, Int.reduceToNat, sh_zero, Bool.not_true, Bool.not_false, Option.isNone_some, Option.isNone_none, Option.isSome_some, Option.isSome_none]; try with_reducible intro (base : Nat → Value))
      refine SemV.draw (fun w => ∃ O, Ctx w O (rowsF z.gs z.ls :: L')) [(0, true), (1, true), (2, true), (3, true), (4, false), (5, true), (6, true), (7, false), (8, false)] Try.mixed (by kernel_rfl) (fun w' e => ⟨_, h.same e⟩) ?_
      intro base w' e
      have h4 := h4.same e
      (simp -dsimp only [vc, Try.ty, Try.en, ↓reduceIte, Nat.reduceLT, Nat.reduceEqDiff, Nat.reduceSub, Nat.reduceAdd, Nat.reduceMul, Int.natCast_one, Int.natCast_zero, Int.reduceEq, Int.reduceLT, Int.reduceLE, Int.reduceAdd, Int.reduceSub, decide_false, decide_true, Int.reduceToNat, sh_zero, Bool.not_true, Bool.not_false, Option.isNone_some, Option.isNone_none, Option.isSome_some, Option.isSome_none]; try with_reducible intro (base : Nat → Value))
      refine FloatP.load0 (fun w ⟨_, h⟩ => h.rd hq) rfl (by kernel_rfl) ?_
      (simp -dsimp only [vc, Try.ty, Try.en, ↓reduceIte, Nat.reduceLT, Nat.reduceEqDiff, Nat.reduceSub, Nat.reduceAdd, Nat.reduceMul, Int.natCast_one, Int.natCast_zero, Int.reduceEq, Int.reduceLT, Int.reduceLE, Int.reduceAdd, Int.reduceSub, decide_false, decide_true, Int.reduceToNat, sh_zero, Bool.not_true, Bool.not_false, Option.isNone_some, Option.isNone_none, Option.isSome_some, Option.isSome_none]; try with_reducible intro (base : Nat → Value))
      refine FloatP.load0 (fun w ⟨_, h⟩ => h.rd hq) rfl (by kernel_rfl) ?_
      (simp -dsimp only [vc, Try.ty, Try.en, ↓reduceIte, Nat.reduceLT, Nat.reduceEqDiff, Nat.reduceSub, Nat.reduceAdd, Nat.reduceMul, Int.natCast_one, Int.natCast_zero, Int.reduceEq, Int.reduceLT, Int.reduceLE, Int.reduceAdd, Int.reduceSub, decide_false, decide_true, Int.reduceToNat, sh_zero, Bool.not_true, Bool.not_false, Option.isNone_some, Option.isNone_none, Option.isSome_some, Option.isSome_none]; try with_reducible intro (base : Nat → Value))
      refine RunV.st0 h4 (by kernel_rfl) rfl rfl (by simp) fun w5 h5 => ?_
      (simp -dsimp only [vc, Try.ty, Try.en, ↓reduceIte, Nat.reduceLT, Nat.reduceEqDiff, Nat.reduceSub, Nat.reduceAdd, Nat.reduceMul, Int.natCast_one, Int.natCast_zero, Int.reduceEq, Int.reduceLT, Int.reduceLE, Int.reduceAdd, Int.reduceSub, decide_false, decide_true, Int.reduceToNat, sh_zero, Bool.not_true, Bool.not_false, Option.isNone_some, Option.isNone_none, Option.isSome_some, Option.isSome_none]; try with_reducible intro (base : Nat → Value))
      refine ⟨⟨_, h5⟩, ?_⟩
      refine RunV.st h5 (by kernel_rfl) rfl rfl (by simp) fun w6 h6 => ?_
      (simp -dsimp only [vc, Try.ty, Try.en, ↓reduceIte, Nat.reduceLT, Nat.reduceEqDiff, Nat.reduceSub, Nat.reduceAdd, Nat.reduceMul, Int.natCast_one, Int.natCast_zero, Int.reduceEq, Int.reduceLT, Int.reduceLE, Int.reduceAdd, Int.reduceSub, decide_false, decide_true, Int.reduceToNat, sh_zero, Bool.not_true, Bool.not_false, Option.isNone_some, Option.isNone_none, Option.isSome_some, Option.isSome_none]; try with_reducible intro (base : Nat → Value))
      refine ⟨⟨_, h6⟩, ?_⟩
      refine RunV.st0 (h6.ord [4]) (by kernel_rfl) rfl rfl (by simp) fun w7 h7 => ?_
      (simp -dsimp only [vc, Try.ty, Try.en, ↓reduceIte, Nat.reduceLT, Nat.reduceEqDiff, Nat.reduceSub, Nat.reduceAdd, Nat.reduceMul, Int.natCast_one, Int.natCast_zero, Int.reduceEq, Int.reduceLT, Int.reduceLE, Int.reduceAdd, Int.reduceSub, decide_false, decide_true, Int.reduceToNat, sh_zero, Bool.not_true, Bool.not_false, Option.isNone_some, Option.isNone_none, Option.isSome_some, Option.isSome_none]; try with_reducible intro (base : Nat → Value))
      refine ⟨z, ?_⟩
      simp only [feedX, List.cons_append, List.nil_append]
      refine Ctx.tr ?_ ⟨trivial, hg, fun rest => ?_⟩
      · exact fr_shut (f := f) (held := []) (over := true) (a := none) (c := 0) (Ctx.ord [2, 0, 1, 1] ((h7.ord [2]).drop.buf_nil 5 1))
      · rw [List.append_assoc, hz, List.singleton_append, eat, if_pos hov, List.append_nil]
    · have hov : ¬ 65536 < z.h.length + xp.length := by simp at hov; omega
      (simp -dsimp only [vc, Try.ty, Try.en, ↓reduceIte, Nat.reduceLT, Nat.reduceEqDiff, Nat.reduceSub, Nat.reduceAdd, Nat.reduceMul, Int.natCast_one, Int.natCast_zero, Int.reduceEq, Int.reduceLT, Int.reduceLE, Int.reduceAdd, Int.reduceSub, decide_false, decide_true, Int.reduceToNat, sh_zero, Bool.not_true, Bool.not_false, Option.isNone_some, Option.isNone_none, Option.isSome_some, Option.isSome_none]; try with_reducible intro (base : Nat → Value))
      have hp : Rdb (O2 ++ O) L' p (xp.map bv) := hp
      cases xe with
      | false =>
        (simp -dsimp only [vc, Try.ty, Try.en, ↓reduceIte, Nat.reduceLT, Nat.reduceEqDiff, Nat.reduceSub, Nat.reduceAdd, Nat.reduceMul, Int.natCast_one, Int.natCast_zero, Int.reduceEq, Int.reduceLT, Int.reduceLE, Int.reduceAdd, Int.reduceSub, decide_false, decide_true, Int.reduceToNat, sh_zero, Bool.not_true, Bool.not_false, Option.isNone_some, Option.isNone_none, Option.isSome_some, Option.isSome_none]; try with_reducible intro (base : Nat → Value))
        refine SemV.draw (fun w => ∃ O, Ctx w (cel f 48 [.slice hb z.h.length hbc, .bool false] :: O) (rowsF z.gs z.ls :: L')) [(0, true), (1, true), (2, true), (3, true), (4, true), (5, true), (6, false), (7, true), (8, true), (9, false)] Try.mixed (by kernel_rfl) (fun w' e => ⟨_, h4.same e⟩) ?_
        intro base w' e
        have h4 := h4.same e
        (simp -dsimp only [vc, Try.ty, Try.en, ↓reduceIte, Nat.reduceLT, Nat.reduceEqDiff, Nat.reduceSub, Nat.reduceAdd, Nat.reduceMul, Int.natCast_one, Int.natCast_zero, Int.reduceEq, Int.reduceLT, Int.reduceLE, Int.reduceAdd, Int.reduceSub, decide_false, decide_true, Int.reduceToNat, sh_zero, Bool.not_true, Bool.not_false, Option.isNone_some, Option.isNone_none, Option.isSome_some, Option.isSome_none]; try with_reducible intro (base : Nat → Value))
        refine FloatP.load0 (fun w ⟨_, h⟩ => h.rd hq) rfl (by kernel_rfl) ?_
        (simp -dsimp only [vc, Try.ty, Try.en, ↓reduceIte, Nat.reduceLT, Nat.reduceEqDiff, Nat.reduceSub, Nat.reduceAdd, Nat.reduceMul, Int.natCast_one, Int.natCast_zero, Int.reduceEq, Int.reduceLT, Int.reduceLE, Int.reduceAdd, Int.reduceSub, decide_false, decide_true, Int.reduceToNat, sh_zero, Bool.not_true, Bool.not_false, Option.isNone_some, Option.isNone_none, Option.isSome_some, Option.isSome_none]; try with_reducible intro (base : Nat → Value))
        refine FloatP.load0 (fun w ⟨_, h⟩ => h.rd hq) rfl (by kernel_rfl) ?_
        (simp -dsimp only [vc, Try.ty, Try.en, ↓reduceIte, Nat.reduceLT, Nat.reduceEqDiff, Nat.reduceSub, Nat.reduceAdd, Nat.reduceMul, Int.natCast_one, Int.natCast_zero, Int.reduceEq, Int.reduceLT, Int.reduceLE, Int.reduceAdd, Int.reduceSub, decide_false, decide_true, Int.reduceToNat, sh_zero, Bool.not_true, Bool.not_false, Option.isNone_some, Option.isNone_none, Option.isSome_some, Option.isSome_none]; try with_reducible intro (base : Nat → Value))
        refine FloatP.load0 (fun w ⟨_, h⟩ => h.rd_own) rfl (by kernel_rfl) ?_
        (simp -dsimp only [vc, Try.ty, Try.en, ↓reduceIte, Nat.reduceLT, Nat.reduceEqDiff, Nat.reduceSub, Nat.reduceAdd, Nat.reduceMul, Int.natCast_one, Int.natCast_zero, Int.reduceEq, Int.reduceLT, Int.reduceLE, Int.reduceAdd, Int.reduceSub, decide_false, decide_true, Int.reduceToNat, sh_zero, Bool.not_true, Bool.not_false, Option.isNone_some, Option.isNone_none, Option.isSome_some, Option.isSome_none]; try with_reducible intro (base : Nat → Value))
        refine RunV.append (.int .u8 0) (h4.ord [1]) (((hp.append [_, _, _, _, _]).more fun φ hφ => by simp [hφ]).rd (h4.ord [1])) (by simp) (bvs_one _) (by kernel_rfl) (by kernel_rfl) (by decide) (by kernel_rfl) rfl ?_ ?_ fun a5 c5 w5 h5 => ?_
        · rw [show tby Try.prog 5 = 1 from (by kernel_rfl)]; omega
        · simp only [maxLen]; omega
        (simp -dsimp only [vc, Try.ty, Try.en, ↓reduceIte, Nat.reduceLT, Nat.reduceEqDiff, Nat.reduceSub, Nat.reduceAdd, Nat.reduceMul, Int.natCast_one, Int.natCast_zero, Int.reduceEq, Int.reduceLT, Int.reduceLE, Int.reduceAdd, Int.reduceSub, decide_false, decide_true, Int.reduceToNat, sh_zero, Bool.not_true, Bool.not_false, Option.isNone_some, Option.isNone_none, Option.isSome_some, Option.isSome_none]; try with_reducible intro (base : Nat → Value))
        refine ⟨⟨_, h5.swap⟩, ?_⟩
        refine RunV.st0 h5.swap (by kernel_rfl) rfl rfl (by simp) fun w6 h6 => ?_
        (simp -dsimp only [vc, Try.ty, Try.en, ↓reduceIte, Nat.reduceLT, Nat.reduceEqDiff, Nat.reduceSub, Nat.reduceAdd, Nat.reduceMul, Int.natCast_one, Int.natCast_zero, Int.reduceEq, Int.reduceLT, Int.reduceLE, Int.reduceAdd, Int.reduceSub, decide_false, decide_true, Int.reduceToNat, sh_zero, Bool.not_true, Bool.not_false, Option.isNone_some, Option.isNone_none, Option.isSome_some, Option.isSome_none]; try with_reducible intro (base : Nat → Value))
        refine ⟨⟨z.ls, z.h ++ xp, z.gs, z.la, z.lc⟩, ?_⟩
        simp only [feedU, List.cons_append, List.nil_append]
        refine Ctx.tr ?_ ⟨hg, ?_, ?_, fun rest => ?_⟩
        · refine fr_shut (a := a5) (c := c5) ?_
          simpa using h6
        · simp; omega
        · simp; omega
        · rw [List.append_assoc, hz, List.singleton_append, eat, if_neg hov, if_neg (by simp)]
      | true =>
        (simp -dsimp only [vc, Try.ty, Try.en, ↓reduceIte, Nat.reduceLT, Nat.reduceEqDiff, Nat.reduceSub, Nat.reduceAdd, Nat.reduceMul, Int.natCast_one, Int.natCast_zero, Int.reduceEq, Int.reduceLT, Int.reduceLE, Int.reduceAdd, Int.reduceSub, decide_false, decide_true, Int.reduceToNat, sh_zero, Bool.not_true, Bool.not_false, Option.isNone_some, Option.isNone_none, Option.isSome_some, Option.isSome_none]; try with_reducible intro (base : Nat → Value))
        refine SemV.draw (fun w => ∃ O, Ctx w (cel f 48 [.slice hb z.h.length hbc, .bool false] :: cel b4 30 [.slice z.la z.ls.length z.lc] :: O) (rowsF z.gs z.ls :: L')) [(0, true), (1, true), (2, true), (3, true), (4, true), (5, true), (6, false), (7, false), (8, false), (9, false), (10, false)] Try.mixed (by kernel_rfl) (fun w' e => ⟨_, (h4.ord [0, 2]).same e⟩) ?_
        intro base w' e
        have h4 := h4.same e
        (simp -dsimp only [vc, Try.ty, Try.en, ↓reduceIte, Nat.reduceLT, Nat.reduceEqDiff, Nat.reduceSub, Nat.reduceAdd, Nat.reduceMul, Int.natCast_one, Int.natCast_zero, Int.reduceEq, Int.reduceLT, Int.reduceLE, Int.reduceAdd, Int.reduceSub, decide_false, decide_true, Int.reduceToNat, sh_zero, Bool.not_true, Bool.not_false, Option.isNone_some, Option.isNone_none, Option.isSome_some, Option.isSome_none]; try with_reducible intro (base : Nat → Value))
        refine FloatP.load0 (fun w ⟨_, h⟩ => h.drop.rd_own) rfl (by kernel_rfl) ?_
        (simp -dsimp only [vc, Try.ty, Try.en, ↓reduceIte, Nat.reduceLT, Nat.reduceEqDiff, Nat.reduceSub, Nat.reduceAdd, Nat.reduceMul, Int.natCast_one, Int.natCast_zero, Int.reduceEq, Int.reduceLT, Int.reduceLE, Int.reduceAdd, Int.reduceSub, decide_false, decide_true, Int.reduceToNat, sh_zero, Bool.not_true, Bool.not_false, Option.isNone_some, Option.isNone_none, Option.isSome_some, Option.isSome_none]; try with_reducible intro (base : Nat → Value))
        refine FloatP.load0 (fun w ⟨_, h⟩ => h.rd hq) rfl (by kernel_rfl) ?_
        (simp -dsimp only [vc, Try.ty, Try.en, ↓reduceIte, Nat.reduceLT, Nat.reduceEqDiff, Nat.reduceSub, Nat.reduceAdd, Nat.reduceMul, Int.natCast_one, Int.natCast_zero, Int.reduceEq, Int.reduceLT, Int.reduceLE, Int.reduceAdd, Int.reduceSub, decide_false, decide_true, Int.reduceToNat, sh_zero, Bool.not_true, Bool.not_false, Option.isNone_some, Option.isNone_none, Option.isSome_some, Option.isSome_none]; try with_reducible intro (base : Nat → Value))
        refine FloatP.load0 (fun w ⟨_, h⟩ => h.rd_own) rfl (by kernel_rfl) ?_
        (simp -dsimp only [vc, Try.ty, Try.en, ↓reduceIte, Nat.reduceLT, Nat.reduceEqDiff, Nat.reduceSub, Nat.reduceAdd, Nat.reduceMul, Int.natCast_one, Int.natCast_zero, Int.reduceEq, Int.reduceLT, Int.reduceLE, Int.reduceAdd, Int.reduceSub, decide_false, decide_true, Int.reduceToNat, sh_zero, Bool.not_true, Bool.not_false, Option.isNone_some, Option.isNone_none, Option.isSome_some, Option.isSome_none]; try with_reducible intro (base : Nat → Value))
        refine RunV.lit 27 (.slice none 0 0) 1 (len := 2) [.slice hb z.h.length hbc, .slice p xp.length cp] h4 (by kernel_rfl) (by kernel_rfl) (by kernel_rfl) (by decide) (by decide) (by kernel_rfl) fun s w5 h5 => ?_
        (simp -dsimp only [vc, Try.ty, Try.en, ↓reduceIte, Nat.reduceLT, Nat.reduceEqDiff, Nat.reduceSub, Nat.reduceAdd, Nat.reduceMul, Int.natCast_one, Int.natCast_zero, Int.reduceEq, Int.reduceLT, Int.reduceLE, Int.reduceAdd, Int.reduceSub, decide_false, decide_true, Int.reduceToNat, sh_zero, Bool.not_true, Bool.not_false, Option.isNone_some, Option.isNone_none, Option.isSome_some, Option.isSome_none]; try with_reducible intro (base : Nat → Value))
        refine ⟨⟨_, h5.ord [1, 3]⟩, ?_⟩
        refine (concat_ok (gs := [(hb, hbc), (p, cp)]) (ls := [z.h, xp]) h5 rfl (Rdb.cel (b := s)) ?_ (by simp) (by simp; omega)).mono ?_
        · intro i g l' h1 h2
          match i, h1, h2 with
          | 0, h1, h2 =>
            cases h1; cases h2
            exact (Rdb.buf.cons _).cons _
          | 1, h1, h2 =>
            cases h1; cases h2
            exact (hp.append [_, _, _, _, _, _]).more fun φ hφ => by simp [hφ]
        rintro v w6 ⟨b, d, rfl, h6⟩
        rw [show [z.h, xp].flatten = z.h ++ xp by simp] at h6 ⊢
        refine ⟨⟨_, h6.ord [2, 4]⟩, ?_⟩
        (simp -dsimp only [vc, Try.ty, Try.en, ↓reduceIte, Nat.reduceLT, Nat.reduceEqDiff, Nat.reduceSub, Nat.reduceAdd, Nat.reduceMul, Int.natCast_one, Int.natCast_zero, Int.reduceEq, Int.reduceLT, Int.reduceLE, Int.reduceAdd, Int.reduceSub, decide_false, decide_true, Int.reduceToNat, sh_zero, Bool.not_true, Bool.not_false, Option.isNone_some, Option.isNone_none, Option.isSome_some, Option.isSome_none]; try with_reducible intro (base : Nat → Value))
        refine RunV.lit1 27 (.slice none 0 0) h6.keep_buf (by kernel_rfl) (by kernel_rfl) (by kernel_rfl) rfl rfl fun s2 w7 h7 => ?_
        (simp -dsimp only [vc, Try.ty, Try.en, ↓reduceIte, Nat.reduceLT, Nat.reduceEqDiff, Nat.reduceSub, Nat.reduceAdd, Nat.reduceMul, Int.natCast_one, Int.natCast_zero, Int.reduceEq, Int.reduceLT, Int.reduceLE, Int.reduceAdd, Int.reduceSub, decide_false, decide_true, Int.reduceToNat, sh_zero, Bool.not_true, Bool.not_false, Option.isNone_some, Option.isNone_none, Option.isSome_some, Option.isSome_none]; try with_reducible intro (base : Nat → Value))
        refine ⟨⟨_, (h7.ord [2, 4]).tailF⟩, ?_⟩
        refine RunV.append (.slice none 0 0) (h7.ord [4]) (Ctx.rd_own h7) (by simp) (by simp [Value.oneCell']) (by kernel_rfl) (by kernel_rfl) (by decide) (by kernel_rfl) rfl ?_ ?_ fun a8 c8 w8 h8 => ?_
        · rw [show tby Try.prog 27 = 24 from (by kernel_rfl)]; omega
        · simp only [maxLen]; omega
        (simp -dsimp only [vc, Try.ty, Try.en, ↓reduceIte, Nat.reduceLT, Nat.reduceEqDiff, Nat.reduceSub, Nat.reduceAdd, Nat.reduceMul, Int.natCast_one, Int.natCast_zero, Int.reduceEq, Int.reduceLT, Int.reduceLE, Int.reduceAdd, Int.reduceSub, decide_false, decide_true, Int.reduceToNat, sh_zero, Bool.not_true, Bool.not_false, Option.isNone_some, Option.isNone_none, Option.isSome_some, Option.isSome_none]; try with_reducible intro (base : Nat → Value))
        refine ⟨⟨_, (h8.ord [3, 4]).tailF⟩, ?_⟩
        refine RunV.st0 (h8.ord [5]) (by kernel_rfl) rfl rfl (by simp) fun w9 h9 => ?_
        (simp -dsimp only [vc, Try.ty, Try.en, ↓reduceIte, Nat.reduceLT, Nat.reduceEqDiff, Nat.reduceSub, Nat.reduceAdd, Nat.reduceMul, Int.natCast_one, Int.natCast_zero, Int.reduceEq, Int.reduceLT, Int.reduceLE, Int.reduceAdd, Int.reduceSub, decide_false, decide_true, Int.reduceToNat, sh_zero, Bool.not_true, Bool.not_false, Option.isNone_some, Option.isNone_none, Option.isSome_some, Option.isSome_none]; try with_reducible intro (base : Nat → Value))
        refine RunV.load0 (h9.rd (.tail _ hq)) rfl (by kernel_rfl) ?_
        (simp -dsimp only [vc, Try.ty, Try.en, ↓reduceIte, Nat.reduceLT, Nat.reduceEqDiff, Nat.reduceSub, Nat.reduceAdd, Nat.reduceMul, Int.natCast_one, Int.natCast_zero, Int.reduceEq, Int.reduceLT, Int.reduceLE, Int.reduceAdd, Int.reduceSub, decide_false, decide_true, Int.reduceToNat, sh_zero, Bool.not_true, Bool.not_false, Option.isNone_some, Option.isNone_none, Option.isSome_some, Option.isSome_none]; try with_reducible intro (base : Nat → Value))
        refine RunV.st0 (h9.ord [4]) (by kernel_rfl) rfl rfl (by simp) fun w10 h10 => ?_
        (simp -dsimp only [vc, Try.ty, Try.en, ↓reduceIte, Nat.reduceLT, Nat.reduceEqDiff, Nat.reduceSub, Nat.reduceAdd, Nat.reduceMul, Int.natCast_one, Int.natCast_zero, Int.reduceEq, Int.reduceLT, Int.reduceLE, Int.reduceAdd, Int.reduceSub, decide_false, decide_true, Int.reduceToNat, sh_zero, Bool.not_true, Bool.not_false, Option.isNone_some, Option.isNone_none, Option.isSome_some, Option.isSome_none]; try with_reducible intro (base : Nat → Value))
        refine ⟨⟨z.ls ++ [z.h ++ xp], [], z.gs ++ [(b, d)], a8, c8⟩, ?_⟩
        simp only [feedU, List.cons_append, List.nil_append]
        refine Ctx.tr (Ctx.weak (L := rowsF (z.gs ++ [(b, d)]) (z.ls ++ [z.h ++ xp]) :: arr b ((z.h ++ xp).map bv) :: rowsF z.gs z.ls :: L') ?_ ?_) ⟨?_, ?_, ?_, fun rest => ?_⟩
        · refine fr_shut (f := f) (held := []) (over := false) (a := none) (c := 0) ?_
          rw [zip_hdr_snoc hg, List.length_append]
          exact Ctx.rowsF_snoc (Ctx.ord [1, 0, 1, 0] ((((h10.del 3).del 3).del 3).buf_nil 5 1)) hg mem1 mem0
        · intro φ hφ
          simp only [List.mem_cons] at hφ ⊢
          rcases hφ with rfl | hφ
          · exact .inl rfl
          · exact .inr (.inr (.inr hφ))
        · simp [hg]
        · simp
        · simp; omega
        · rw [List.append_assoc, hz, List.singleton_append, eat, if_neg hov, if_pos rfl]
          simp
  · intro D z' w' h
    simp only [feedU, List.cons_append, List.nil_append] at h
    obtain ⟨⟨hg, hzh, hzl, hz⟩, h⟩ := h.true
    have hf : feed held l = (z'.ls, z'.h, false) := by
      have := hz []
      rw [List.append_nil] at this
      rw [feed_eat l held hh, this, eat]
      simp
    (simp -dsimp only [vc, Try.ty, Try.en, ↓reduceIte, Nat.reduceLT, Nat.reduceEqDiff, Nat.reduceSub, Nat.reduceAdd, Nat.reduceMul, Int.natCast_one, Int.natCast_zero, Int.reduceEq, Int.reduceLT, Int.reduceLE, Int.reduceAdd, Int.reduceSub, decide_false, decide_true, Int.reduceToNat, sh_zero, Bool.not_true, Bool.not_false, Option.isNone_some, Option.isNone_none, Option.isSome_some, Option.isSome_none]; try with_reducible intro (base : Nat → Value))
    refine SemV.draw (fun w => ∃ O, Ctx w (cel b4 30 [.slice z'.la z'.ls.length z'.lc] :: cel b5 36 [.int .i64 0] :: O) (rowsF z'.gs z'.ls :: arr (some q) [.pointer (some ⟨f, 0, none⟩)] :: L)) [(0, true), (1, true), (2, false), (3, false)] Try.mixed (by kernel_rfl) (fun w' e => ⟨_, (h.ord [2, 2]).same e⟩) ?_
    intro base w2 e
    have h := h.same e
    (simp -dsimp only [vc, Try.ty, Try.en, ↓reduceIte, Nat.reduceLT, Nat.reduceEqDiff, Nat.reduceSub, Nat.reduceAdd, Nat.reduceMul, Int.natCast_one, Int.natCast_zero, Int.reduceEq, Int.reduceLT, Int.reduceLE, Int.reduceAdd, Int.reduceSub, decide_false, decide_true, Int.reduceToNat, sh_zero, Bool.not_true, Bool.not_false, Option.isNone_some, Option.isNone_none, Option.isSome_some, Option.isSome_none]; try with_reducible intro (base : Nat → Value))
    refine FloatP.load0 (fun w ⟨_, h⟩ => h.rd_own) rfl (by kernel_rfl) ?_
    (simp -dsimp only [vc, Try.ty, Try.en, ↓reduceIte, Nat.reduceLT, Nat.reduceEqDiff, Nat.reduceSub, Nat.reduceAdd, Nat.reduceMul, Int.natCast_one, Int.natCast_zero, Int.reduceEq, Int.reduceLT, Int.reduceLE, Int.reduceAdd, Int.reduceSub, decide_false, decide_true, Int.reduceToNat, sh_zero, Bool.not_true, Bool.not_false, Option.isNone_some, Option.isNone_none, Option.isSome_some, Option.isSome_none]; try with_reducible intro (base : Nat → Value))
    refine FloatP.load0 (fun w ⟨_, h⟩ => h.drop.rd_own) rfl (by kernel_rfl) ?_
    (simp -dsimp only [vc, Try.ty, Try.en, ↓reduceIte, Nat.reduceLT, Nat.reduceEqDiff, Nat.reduceSub, Nat.reduceAdd, Nat.reduceMul, Int.natCast_one, Int.natCast_zero, Int.reduceEq, Int.reduceLT, Int.reduceLE, Int.reduceAdd, Int.reduceSub, decide_false, decide_true, Int.reduceToNat, sh_zero, Bool.not_true, Bool.not_false, Option.isNone_some, Option.isNone_none, Option.isSome_some, Option.isSome_none]; try with_reducible intro (base : Nat → Value))
    refine RunV.st0 (h.ord [2]) (by kernel_rfl) rfl rfl (by simp) fun w3 h3 => ?_
    (simp -dsimp only [vc, Try.ty, Try.en, ↓reduceIte, Nat.reduceLT, Nat.reduceEqDiff, Nat.reduceSub, Nat.reduceAdd, Nat.reduceMul, Int.natCast_one, Int.natCast_zero, Int.reduceEq, Int.reduceLT, Int.reduceLE, Int.reduceAdd, Int.reduceSub, decide_false, decide_true, Int.reduceToNat, sh_zero, Bool.not_true, Bool.not_false, Option.isNone_some, Option.isNone_none, Option.isSome_some, Option.isSome_none]; try with_reducible intro (base : Nat → Value))
    refine ⟨⟨_, h3.ord [0, 2]⟩, ?_⟩
    refine RunV.st0 (h3.ord [3]) (by kernel_rfl) rfl rfl (by simp) fun w4 h4 => ?_
    (simp -dsimp only [vc, Try.ty, Try.en, ↓reduceIte, Nat.reduceLT, Nat.reduceEqDiff, Nat.reduceSub, Nat.reduceAdd, Nat.reduceMul, Int.natCast_one, Int.natCast_zero, Int.reduceEq, Int.reduceLT, Int.reduceLE, Int.reduceAdd, Int.reduceSub, decide_false, decide_true, Int.reduceToNat, sh_zero, Bool.not_true, Bool.not_false, Option.isNone_some, Option.isNone_none, Option.isSome_some, Option.isSome_none]; try with_reducible intro (base : Nat → Value))
    refine ResP.mark (h4.ord [4]) fun w5 h5 => ?_
    refine ResP.cells2 rfl (by decide) rfl rfl (h5.ord [1]).rd_own (h5.ord [0]).rd_own (by kernel_rfl) (by kernel_rfl) ?_
    rw [hf]
    refine ⟨z'.la, z'.lc, rfl, buf_le (h5.ord [3]), ?_⟩
    refine ((((h5.ord [3]).keep_buf.del 0).del 0).shut_rows hg mem0 mem1).weak fun φ hφ => ?_
    simp only [List.mem_cons] at hφ ⊢
    rcases hφ with rfl | hφ
    · exact .inl rfl
    · exact .inr (.inr (.inr (.inr hφ)))
  · intro D cd pre z' w' hpre hcd h
    simp only [feedX, List.cons_append, List.nil_append] at h
    obtain ⟨⟨hce, hg, hz⟩, h'⟩ := h.true
    clear h
    subst hce
    have h := h'
    have hf : feed held l = (z'.ls, [], true) := by
      obtain ⟨rest, hr⟩ := hpre
      rw [feed_eat l held hh, ← hr, hz]
    refine codeV_sem (Code.exit 1) _ _ _ _ _ _ _ ?_ rfl
    (simp -dsimp only [vc, Try.ty, Try.en, ↓reduceIte, Nat.reduceLT, Nat.reduceEqDiff, Nat.reduceSub, Nat.reduceAdd, Nat.reduceMul, Int.natCast_one, Int.natCast_zero, Int.reduceEq, Int.reduceLT, Int.reduceLE, Int.reduceAdd, Int.reduceSub, decide_false, decide_true, Int.reduceToNat, sh_zero, Bool.not_true, Bool.not_false, Option.isNone_some, Option.isNone_none, Option.isSome_some, Option.isSome_none]; try with_reducible intro (base : Nat → Value))
    refine SemV.draw (fun w => ∃ O, Ctx w (cel b4 30 [.slice z'.la z'.ls.length z'.lc] :: cel b5 36 [.int .i64 6] :: O) (rowsF z'.gs z'.ls :: arr (some q) [.pointer (some ⟨f, 0, none⟩)] :: L)) [(0, true), (1, true), (2, false), (3, false)] Try.mixed (by kernel_rfl) (fun w' e => ⟨_, (h.ord [2, 2]).same e⟩) ?_
    intro base w2 e
    have h := h.same e
    (simp -dsimp only [vc, Try.ty, Try.en, ↓reduceIte, Nat.reduceLT, Nat.reduceEqDiff, Nat.reduceSub, Nat.reduceAdd, Nat.reduceMul, Int.natCast_one, Int.natCast_zero, Int.reduceEq, Int.reduceLT, Int.reduceLE, Int.reduceAdd, Int.reduceSub, decide_false, decide_true, Int.reduceToNat, sh_zero, Bool.not_true, Bool.not_false, Option.isNone_some, Option.isNone_none, Option.isSome_some, Option.isSome_none]; try with_reducible intro (base : Nat → Value))
    refine FloatP.load0 (fun w ⟨_, h⟩ => h.rd_own) rfl (by kernel_rfl) ?_
    (simp -dsimp only [vc, Try.ty, Try.en, ↓reduceIte, Nat.reduceLT, Nat.reduceEqDiff, Nat.reduceSub, Nat.reduceAdd, Nat.reduceMul, Int.natCast_one, Int.natCast_zero, Int.reduceEq, Int.reduceLT, Int.reduceLE, Int.reduceAdd, Int.reduceSub, decide_false, decide_true, Int.reduceToNat, sh_zero, Bool.not_true, Bool.not_false, Option.isNone_some, Option.isNone_none, Option.isSome_some, Option.isSome_none]; try with_reducible intro (base : Nat → Value))
    refine FloatP.load0 (fun w ⟨_, h⟩ => h.drop.rd_own) rfl (by kernel_rfl) ?_
    (simp -dsimp only [vc, Try.ty, Try.en, ↓reduceIte, Nat.reduceLT, Nat.reduceEqDiff, Nat.reduceSub, Nat.reduceAdd, Nat.reduceMul, Int.natCast_one, Int.natCast_zero, Int.reduceEq, Int.reduceLT, Int.reduceLE, Int.reduceAdd, Int.reduceSub, decide_false, decide_true, Int.reduceToNat, sh_zero, Bool.not_true, Bool.not_false, Option.isNone_some, Option.isNone_none, Option.isSome_some, Option.isSome_none]; try with_reducible intro (base : Nat → Value))
    refine RunV.st0 (h.ord [2]) (by kernel_rfl) rfl rfl (by simp) fun w3 h3 => ?_
    (simp -dsimp only [vc, Try.ty, Try.en, ↓reduceIte, Nat.reduceLT, Nat.reduceEqDiff, Nat.reduceSub, Nat.reduceAdd, Nat.reduceMul, Int.natCast_one, Int.natCast_zero, Int.reduceEq, Int.reduceLT, Int.reduceLE, Int.reduceAdd, Int.reduceSub, decide_false, decide_true, Int.reduceToNat, sh_zero, Bool.not_true, Bool.not_false, Option.isNone_some, Option.isNone_none, Option.isSome_some, Option.isSome_none]; try with_reducible intro (base : Nat → Value))
    refine ⟨⟨_, h3.ord [0, 2]⟩, ?_⟩
    refine RunV.st0 (h3.ord [3]) (by kernel_rfl) rfl rfl (by simp) fun w4 h4 => ?_
    (simp -dsimp only [vc, Try.ty, Try.en, ↓reduceIte, Nat.reduceLT, Nat.reduceEqDiff, Nat.reduceSub, Nat.reduceAdd, Nat.reduceMul, Int.natCast_one, Int.natCast_zero, Int.reduceEq, Int.reduceLT, Int.reduceLE, Int.reduceAdd, Int.reduceSub, decide_false, decide_true, Int.reduceToNat, sh_zero, Bool.not_true, Bool.not_false, Option.isNone_some, Option.isNone_none, Option.isSome_some, Option.isSome_none]; try with_reducible intro (base : Nat → Value))
    refine ResP.mark (h4.ord [4]) fun w5 h5 => ?_
    refine ResP.cells2 rfl (by decide) rfl rfl (h5.ord [1]).rd_own (h5.ord [0]).rd_own (by kernel_rfl) (by kernel_rfl) ?_
    rw [hf]
    refine ⟨z'.la, z'.lc, rfl, buf_le (h5.ord [3]), ?_⟩
    refine ((((h5.ord [3]).keep_buf.del 0).del 0).shut_rows hg mem0 mem1).weak fun φ hφ => ?_
    simp only [List.mem_cons] at hφ ⊢
    rcases hφ with rfl | hφ
    · exact .inl rfl
    · exact .inr (.inr (.inr (.inr hφ)))

theorem feed_over {w : World} {O : List Res} {L : List Fact} {f : Nat} {held : List UInt8} {v : Value} (h : Ctx w (fr f held true :: O) L) :
    Ret Try.prog 11 #[.pointer (some ⟨f, 0, none⟩), v] w fun r w' => r = .tuple #[.slice none 0 0, .int .i64 6] ∧ Ctx w' (fr f held true :: O) L := by
  refine Ret.enter 20 Try.func11 rfl ⟨by simp, by simp [Try.ntmps11]⟩ (by kernel_rfl) ?_
  (simp -dsimp only [vc, Try.ty, Try.en, ↓reduceIte, Nat.reduceLT, Nat.reduceEqDiff, Nat.reduceSub, Nat.reduceAdd, Nat.reduceMul, Int.natCast_one, Int.natCast_zero, Int.reduceEq, Int.reduceLT, Int.reduceLE, Int.reduceAdd, Int.reduceSub, decide_false, decide_true, Int.reduceToNat, sh_zero, Bool.not_true, Bool.not_false, Option.isNone_some, Option.isNone_none, Option.isSome_some, Option.isSome_none, Try.ntmps11]; try with_reducible intro (base : Nat → Value))
  refine RunV.boxK h fun q w1 h1 => ?_
  (simp -dsimp only [vc, Try.ty, Try.en, ↓reduceIte, Nat.reduceLT, Nat.reduceEqDiff, Nat.reduceSub, Nat.reduceAdd, Nat.reduceMul, Int.natCast_one, Int.natCast_zero, Int.reduceEq, Int.reduceLT, Int.reduceLE, Int.reduceAdd, Int.reduceSub, decide_false, decide_true, Int.reduceToNat, sh_zero, Bool.not_true, Bool.not_false, Option.isNone_some, Option.isNone_none, Option.isSome_some, Option.isSome_none]; try with_reducible intro (base : Nat → Value))
  refine RunV.alloc (.slice none 0 0) h1 (by kernel_rfl) fun b4 w2 h2 => ?_
  (simp -dsimp only [vc, Try.ty, Try.en, ↓reduceIte, Nat.reduceLT, Nat.reduceEqDiff, Nat.reduceSub, Nat.reduceAdd, Nat.reduceMul, Int.natCast_one, Int.natCast_zero, Int.reduceEq, Int.reduceLT, Int.reduceLE, Int.reduceAdd, Int.reduceSub, decide_false, decide_true, Int.reduceToNat, sh_zero, Bool.not_true, Bool.not_false, Option.isNone_some, Option.isNone_none, Option.isSome_some, Option.isSome_none]; try with_reducible intro (base : Nat → Value))
  refine RunV.alloc (.int .i64 0) h2 (by kernel_rfl) fun b5 w3 h3 => ?_
  (simp -dsimp only [vc, Try.ty, Try.en, ↓reduceIte, Nat.reduceLT, Nat.reduceEqDiff, Nat.reduceSub, Nat.reduceAdd, Nat.reduceMul, Int.natCast_one, Int.natCast_zero, Int.reduceEq, Int.reduceLT, Int.reduceLE, Int.reduceAdd, Int.reduceSub, decide_false, decide_true, Int.reduceToNat, sh_zero, Bool.not_true, Bool.not_false, Option.isNone_some, Option.isNone_none, Option.isSome_some, Option.isSome_none]; try with_reducible intro (base : Nat → Value))
  refine RunV.load0 (h3.rd mem0) rfl (by kernel_rfl) ?_
  (simp -dsimp only [vc, Try.ty, Try.en, ↓reduceIte, Nat.reduceLT, Nat.reduceEqDiff, Nat.reduceSub, Nat.reduceAdd, Nat.reduceMul, Int.natCast_one, Int.natCast_zero, Int.reduceEq, Int.reduceLT, Int.reduceLE, Int.reduceAdd, Int.reduceSub, decide_false, decide_true, Int.reduceToNat, sh_zero, Bool.not_true, Bool.not_false, Option.isNone_some, Option.isNone_none, Option.isSome_some, Option.isSome_none]; try with_reducible intro (base : Nat → Value))
  refine RunV.load0 (h3.rd mem0) rfl (by kernel_rfl) ?_
  (simp -dsimp only [vc, Try.ty, Try.en, ↓reduceIte, Nat.reduceLT, Nat.reduceEqDiff, Nat.reduceSub, Nat.reduceAdd, Nat.reduceMul, Int.natCast_one, Int.natCast_zero, Int.reduceEq, Int.reduceLT, Int.reduceLE, Int.reduceAdd, Int.reduceSub, decide_false, decide_true, Int.reduceToNat, sh_zero, Bool.not_true, Bool.not_false, Option.isNone_some, Option.isNone_none, Option.isSome_some, Option.isSome_none]; try with_reducible intro (base : Nat → Value))
  obtain ⟨ha0, hc0, h4⟩ := fr_open h3.to2
  refine RunV.load1 h4.rd_own rfl (by kernel_rfl) ?_
  (simp -dsimp only [vc, Try.ty, Try.en, ↓reduceIte, Nat.reduceLT, Nat.reduceEqDiff, Nat.reduceSub, Nat.reduceAdd, Nat.reduceMul, Int.natCast_one, Int.natCast_zero, Int.reduceEq, Int.reduceLT, Int.reduceLE, Int.reduceAdd, Int.reduceSub, decide_false, decide_true, Int.reduceToNat, sh_zero, Bool.not_true, Bool.not_false, Option.isNone_some, Option.isNone_none, Option.isSome_some, Option.isSome_none]; try with_reducible intro (base : Nat → Value))
  refine RunV.st0 (h4.ord [3]) (by kernel_rfl) rfl rfl Nat.one_pos fun w4 h4 => ?_
  (simp -dsimp only [vc, Try.ty, Try.en, ↓reduceIte, Nat.reduceLT, Nat.reduceEqDiff, Nat.reduceSub, Nat.reduceAdd, Nat.reduceMul, Int.natCast_one, Int.natCast_zero, Int.reduceEq, Int.reduceLT, Int.reduceLE, Int.reduceAdd, Int.reduceSub, decide_false, decide_true, Int.reduceToNat, sh_zero, Bool.not_true, Bool.not_false, Option.isNone_some, Option.isNone_none, Option.isSome_some, Option.isSome_none]; try with_reducible intro (base : Nat → Value))
  refine RunV.st0 (h4.ord [3]) (by kernel_rfl) rfl rfl Nat.one_pos fun w5 h5 => ?_
  (simp -dsimp only [vc, Try.ty, Try.en, ↓reduceIte, Nat.reduceLT, Nat.reduceEqDiff, Nat.reduceSub, Nat.reduceAdd, Nat.reduceMul, Int.natCast_one, Int.natCast_zero, Int.reduceEq, Int.reduceLT, Int.reduceLE, Int.reduceAdd, Int.reduceSub, decide_false, decide_true, Int.reduceToNat, sh_zero, Bool.not_true, Bool.not_false, Option.isNone_some, Option.isNone_none, Option.isSome_some, Option.isSome_none]; try with_reducible intro (base : Nat → Value))
  refine ResP.cells2 rfl (by decide) rfl rfl (h5.ord [1]).rd_own (h5.ord [0]).rd_own (by kernel_rfl) (by kernel_rfl) ⟨rfl, ?_⟩
  exact ((fr_shut (h5.ord [2, 2])).tailF.del 1).del 1
theorem feed_nil {w : World} {O : List Res} {L : List Fact} {v : Value} (h : Ctx w O L) :
    Ret Try.prog 11 #[.pointer none, v] w fun r w' => r = .tuple #[.slice none 0 0, .int .i64 2] ∧ Ctx w' O L := by
  refine Ret.enter 20 Try.func11 rfl ⟨by simp, by simp [Try.ntmps11]⟩ (by kernel_rfl) ?_
  (simp -dsimp only [vc, Try.ty, Try.en, ↓reduceIte, Nat.reduceLT, Nat.reduceEqDiff, Nat.reduceSub, Nat.reduceAdd, Nat.reduceMul, Int.natCast_one, Int.natCast_zero, Int.reduceEq, Int.reduceLT, Int.reduceLE, Int.reduceAdd, Int.reduceSub, decide_false, decide_true, Int.reduceToNat, sh_zero, Bool.not_true, Bool.not_false, Option.isNone_some, Option.isNone_none, Option.isSome_some, Option.isSome_none, Try.ntmps11]; try with_reducible intro (base : Nat → Value))
  refine RunV.boxK h fun q w1 h1 => ?_
  (simp -dsimp only [vc, Try.ty, Try.en, ↓reduceIte, Nat.reduceLT, Nat.reduceEqDiff, Nat.reduceSub, Nat.reduceAdd, Nat.reduceMul, Int.natCast_one, Int.natCast_zero, Int.reduceEq, Int.reduceLT, Int.reduceLE, Int.reduceAdd, Int.reduceSub, decide_false, decide_true, Int.reduceToNat, sh_zero, Bool.not_true, Bool.not_false, Option.isNone_some, Option.isNone_none, Option.isSome_some, Option.isSome_none]; try with_reducible intro (base : Nat → Value))
  refine RunV.alloc (.slice none 0 0) h1 (by kernel_rfl) fun b4 w2 h2 => ?_
  (simp -dsimp only [vc, Try.ty, Try.en, ↓reduceIte, Nat.reduceLT, Nat.reduceEqDiff, Nat.reduceSub, Nat.reduceAdd, Nat.reduceMul, Int.natCast_one, Int.natCast_zero, Int.reduceEq, Int.reduceLT, Int.reduceLE, Int.reduceAdd, Int.reduceSub, decide_false, decide_true, Int.reduceToNat, sh_zero, Bool.not_true, Bool.not_false, Option.isNone_some, Option.isNone_none, Option.isSome_some, Option.isSome_none]; try with_reducible intro (base : Nat → Value))
  refine RunV.alloc (.int .i64 0) h2 (by kernel_rfl) fun b5 w3 h3 => ?_
  (simp -dsimp only [vc, Try.ty, Try.en, ↓reduceIte, Nat.reduceLT, Nat.reduceEqDiff, Nat.reduceSub, Nat.reduceAdd, Nat.reduceMul, Int.natCast_one, Int.natCast_zero, Int.reduceEq, Int.reduceLT, Int.reduceLE, Int.reduceAdd, Int.reduceSub, decide_false, decide_true, Int.reduceToNat, sh_zero, Bool.not_true, Bool.not_false, Option.isNone_some, Option.isNone_none, Option.isSome_some, Option.isSome_none]; try with_reducible intro (base : Nat → Value))
  refine RunV.load0 (h3.rd mem0) rfl (by kernel_rfl) ?_
  (simp -dsimp only [vc, Try.ty, Try.en, ↓reduceIte, Nat.reduceLT, Nat.reduceEqDiff, Nat.reduceSub, Nat.reduceAdd, Nat.reduceMul, Int.natCast_one, Int.natCast_zero, Int.reduceEq, Int.reduceLT, Int.reduceLE, Int.reduceAdd, Int.reduceSub, decide_false, decide_true, Int.reduceToNat, sh_zero, Bool.not_true, Bool.not_false, Option.isNone_some, Option.isNone_none, Option.isSome_some, Option.isSome_none]; try with_reducible intro (base : Nat → Value))
  refine RunV.st0 (h3.ord [1]) (by kernel_rfl) rfl rfl Nat.one_pos fun w4 h4 => ?_
  (simp -dsimp only [vc, Try.ty, Try.en, ↓reduceIte, Nat.reduceLT, Nat.reduceEqDiff, Nat.reduceSub, Nat.reduceAdd, Nat.reduceMul, Int.natCast_one, Int.natCast_zero, Int.reduceEq, Int.reduceLT, Int.reduceLE, Int.reduceAdd, Int.reduceSub, decide_false, decide_true, Int.reduceToNat, sh_zero, Bool.not_true, Bool.not_false, Option.isNone_some, Option.isNone_none, Option.isSome_some, Option.isSome_none]; try with_reducible intro (base : Nat → Value))
  refine RunV.st0 (h4.ord [1]) (by kernel_rfl) rfl rfl Nat.one_pos fun w5 h5 => ?_
  (simp -dsimp only [vc, Try.ty, Try.en, ↓reduceIte, Nat.reduceLT, Nat.reduceEqDiff, Nat.reduceSub, Nat.reduceAdd, Nat.reduceMul, Int.natCast_one, Int.natCast_zero, Int.reduceEq, Int.reduceLT, Int.reduceLE, Int.reduceAdd, Int.reduceSub, decide_false, decide_true, Int.reduceToNat, sh_zero, Bool.not_true, Bool.not_false, Option.isNone_some, Option.isNone_none, Option.isSome_some, Option.isSome_none]; try with_reducible intro (base : Nat → Value))
  refine ResP.cells2 rfl (by decide) rfl rfl (h5.ord [1]).rd_own (h5.ord [0]).rd_own (by kernel_rfl) (by kernel_rfl) ⟨rfl, ?_⟩
  exact (h5.tailF.del 0).del 0
end Go.Proofs.Ytloeiefijmbkiaa
