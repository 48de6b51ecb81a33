/-
  The frame seat: bytes.IndexByte, Index, Cut at one byte; the pieces of bytes, as an iterator. No condition but those in each theorem.
-/
import Derived.Test.YtloeiefijmbkiaaEngH
import Derived.Test.YtloeiefijmbkiaaTy
import Derived.Lib.BytesEntry
import Derived.Laws.Externs
set_option linter.unusedSimpArgs false
set_option linter.unusedVariables false
set_option linter.unusedSectionVars false
namespace Go.Proofs.Ytloeiefijmbkiaa
open Go.E

theorem idx_cases (x : UInt8) : ∀ l : List UInt8, (x ∉ l ∧ Lib.indexByte l x = -1) ∨ ∃ i, i < l.length ∧ Lib.indexByte l x = (i : Int) ∧ l[i]? = some x ∧ x ∉ l.take i
  | [] => .inl ⟨by simp, rfl⟩
  | b :: l => by
    unfold Lib.indexByte
    by_cases hb : b = x
    · subst hb
      exact .inr ⟨0, by simp, by simp, by simp, by simp⟩
    · rw [if_neg (by simpa using hb)]
      rcases idx_cases x l with ⟨h1, h2⟩ | ⟨i, h1, h2, h3, h4⟩
      · rw [h2]
        exact .inl ⟨by simpa [h1] using fun e => hb e.symm, rfl⟩
      · rw [h2, if_neg (by simp)]
        exact .inr ⟨i + 1, by simpa using h1, by simp, by simpa using h3, by simpa [h4] using fun e => hb e.symm⟩

theorem run_iB {P : Program} {w : World} {a : Option Addr} {l : List UInt8} (x : UInt8) (c : Nat) (h : Rd w a (l.map bv)) (hn : l ≠ []) :
    (Extern.BytealgIndexByte.indexByte #[.slice a l.length c, bv x]).run P w = .ok (.int .i64 (Lib.indexByte l x)) w := by
  obtain ⟨⟨b, off, sp⟩, rfl, h1, h2⟩ := h.cells (by simpa using hn)
  cases h1
  have hb : Lib.bytesOf (l.map fun b => (b.toNat : Int)) = l := by
    unfold Lib.bytesOf
    rw [List.map_map]
    conv => rhs; rw [← List.map_id l]
    refine List.map_congr_left fun b _ => ?_
    simp
  have := Lib.run_indexByteSlice (P := P) w b off l.length c (l.map fun b => (b.toNat : Int)) (by simp) (fun i hi => by
    have h3 := h2 i (bv l[i]) (bv_lt hi)
    rw [add_plain rfl] at h3
    rw [h3]
    simp [bv, List.getD_eq_getElem?_getD, hi]) (x.toNat : Int)
  rw [hb] at this
  simpa [bv] using this

theorem indexByte_ok {w : World} {O : List Res} {L : List Fact} {a : Option Addr} {c : Nat} {l : List UInt8} (x : UInt8) (h : Ctx w O L) (ha : Rdb O L a (l.map bv)) (hn : l ≠ []) :
    Ret Try.prog 25 #[.slice a l.length c, bv x] w fun v w' => v = .int .i64 (Lib.indexByte l x) ∧ Ctx w' O L := by
  refine Ret.enter 8 Try.func25 rfl ⟨by simp, by simp [Try.ntmps25]⟩ (by kernel_rfl) ?_
  (simp -dsimp only [vc, Try.ty, Try.en, ↓reduceIte, Nat.reduceLT, Nat.reduceEqDiff, Nat.reduceSub, Nat.reduceAdd, Nat.reduceMul, Int.natCast_one, Int.natCast_zero, Int.reduceEq, Int.reduceLT, Int.reduceLE, Int.reduceAdd, Int.reduceSub, decide_false, decide_true, Int.reduceToNat, sh_zero, Bool.not_true, Bool.not_false, Option.isNone_some, Option.isNone_none, Option.isSome_some, Option.isSome_none, Try.ntmps25]; try with_reducible intro (base : Nat → Value))
  rw [show entered Try.prog 30 = false from (by kernel_rfl)]
  (simp -dsimp only [vc, Try.ty, Try.en, ↓reduceIte, Nat.reduceLT, Nat.reduceEqDiff, Nat.reduceSub, Nat.reduceAdd, Nat.reduceMul, Int.natCast_one, Int.natCast_zero, Int.reduceEq, Int.reduceLT, Int.reduceLE, Int.reduceAdd, Int.reduceSub, decide_false, decide_true, Int.reduceToNat, sh_zero, Bool.not_true, Bool.not_false, Option.isNone_some, Option.isNone_none, Option.isSome_some, Option.isSome_none]; try with_reducible intro (base : Nat → Value))
  refine RunV.of_ok (v := .int .i64 (Lib.indexByte l x)) (w' := w) ?_ ?_
  · have hr := run_callFunc_extern (P := Try.prog) Try.func30 (by kernel_rfl) (by kernel_rfl) (by kernel_rfl) (e := Extern.BytealgIndexByte.indexByte) (by kernel_rfl) #[.slice a l.length c, bv x] w
    rw [run_iB x c (ha.rd h) hn] at hr
    simp [hr, Result.andThen]
  · (simp -dsimp only [vc, Try.ty, Try.en, ↓reduceIte, Nat.reduceLT, Nat.reduceEqDiff, Nat.reduceSub, Nat.reduceAdd, Nat.reduceMul, Int.natCast_one, Int.natCast_zero, Int.reduceEq, Int.reduceLT, Int.reduceLE, Int.reduceAdd, Int.reduceSub, decide_false, decide_true, Int.reduceToNat, sh_zero, Bool.not_true, Bool.not_false, Option.isNone_some, Option.isNone_none, Option.isSome_some, Option.isSome_none]; try with_reducible intro (base : Nat → Value))
    exact ResP.one rfl (by decide) ⟨rfl, h⟩

/-- where x stands -/
def Found (x : UInt8) (l : List UInt8) (i : Int) : Prop := (x ∉ l ∧ i = -1) ∨ ∃ k : Nat, i = (k : Int) ∧ l[k]? = some x ∧ x ∉ l.take k

theorem index_ok {w : World} {O : List Res} {L : List Fact} {a s : Option Addr} {c d : Nat} {l : List UInt8} (x : UInt8) (h : Ctx w O L) (ha : Rdb O L a (l.map bv)) (hs : Rdb O L s [bv x]) (hn : l ≠ []) :
    Ret Try.prog 24 #[.slice a l.length c, .slice s 1 d] w fun v w' => ∃ i, v = .int .i64 i ∧ Found x l i ∧ Ctx w' O L := by
  refine Ret.enter 6 Try.func24 rfl ⟨by simp, by simp [Try.ntmps24]⟩ (by kernel_rfl) ?_
  (simp -dsimp only [vc, Try.ty, Try.en, ↓reduceIte, Nat.reduceLT, Nat.reduceEqDiff, Nat.reduceSub, Nat.reduceAdd, Nat.reduceMul, Int.natCast_one, Int.natCast_zero, Int.reduceEq, Int.reduceLT, Int.reduceLE, Int.reduceAdd, Int.reduceSub, decide_false, decide_true, Int.reduceToNat, sh_zero, Bool.not_true, Bool.not_false, Option.isNone_some, Option.isNone_none, Option.isSome_some, Option.isSome_none, Try.ntmps24]; try with_reducible intro (base : Nat → Value))
  refine ⟨(hs.rd h).some (by simp), ?_⟩
  refine RunV.load0 (hs.rd h) rfl (by kernel_rfl) ?_
  (simp -dsimp only [vc, Try.ty, Try.en, ↓reduceIte, Nat.reduceLT, Nat.reduceEqDiff, Nat.reduceSub, Nat.reduceAdd, Nat.reduceMul, Int.natCast_one, Int.natCast_zero, Int.reduceEq, Int.reduceLT, Int.reduceLE, Int.reduceAdd, Int.reduceSub, decide_false, decide_true, Int.reduceToNat, sh_zero, Bool.not_true, Bool.not_false, Option.isNone_some, Option.isNone_none, Option.isSome_some, Option.isSome_none]; try with_reducible intro (base : Nat → Value))
  refine (indexByte_ok x h ha hn).mono ?_
  rintro v w' ⟨rfl, h⟩
  (simp -dsimp only [vc, Try.ty, Try.en, ↓reduceIte, Nat.reduceLT, Nat.reduceEqDiff, Nat.reduceSub, Nat.reduceAdd, Nat.reduceMul, Int.natCast_one, Int.natCast_zero, Int.reduceEq, Int.reduceLT, Int.reduceLE, Int.reduceAdd, Int.reduceSub, decide_false, decide_true, Int.reduceToNat, sh_zero, Bool.not_true, Bool.not_false, Option.isNone_some, Option.isNone_none, Option.isSome_some, Option.isSome_none]; try with_reducible intro (base : Nat → Value))
  refine ResP.one rfl (by decide) ⟨_, rfl, ?_, h⟩
  rcases idx_cases x l with h1 | ⟨k, _, h1, h2⟩
  · exact .inl h1
  · exact .inr ⟨k, h1, h2⟩

theorem cut_ok {w : World} {O : List Res} {L : List Fact} {a s : Option Addr} {c d : Nat} {l : List UInt8} (x : UInt8) (h : Ctx w O L) (ha : Rdb O L a (l.map bv)) (hs : Rdb O L s [bv x]) (hn : l ≠ []) (hc : l.length ≤ c) (hm : l.length ≤ 2^62) :
    Ret Try.prog 22 #[.slice a l.length c, .slice s 1 d] w fun v w' => Ctx w' O L ∧ ((x ∉ l ∧ v = .tuple #[.slice a l.length c, .slice none 0 0, .bool false]) ∨
      ∃ k : Nat, l[k]? = some x ∧ x ∉ l.take k ∧ v = .tuple #[.slice a k c, .slice (sa a (k + 1) c 1) (l.length - (k + 1)) (c - (k + 1)), .bool true]) := by
  refine Ret.enter 23 Try.func22 rfl ⟨by simp, by simp [Try.ntmps22]⟩ (by kernel_rfl) ?_
  (simp -dsimp only [vc, Try.ty, Try.en, ↓reduceIte, Nat.reduceLT, Nat.reduceEqDiff, Nat.reduceSub, Nat.reduceAdd, Nat.reduceMul, Int.natCast_one, Int.natCast_zero, Int.reduceEq, Int.reduceLT, Int.reduceLE, Int.reduceAdd, Int.reduceSub, decide_false, decide_true, Int.reduceToNat, sh_zero, Bool.not_true, Bool.not_false, Option.isNone_some, Option.isNone_none, Option.isSome_some, Option.isSome_none, Try.ntmps22]; try with_reducible intro (base : Nat → Value))
  refine (index_ok x h ha hs hn).mono ?_
  rintro v w' ⟨i, rfl, hi, h⟩
  (simp -dsimp only [vc, Try.ty, Try.en, ↓reduceIte, Nat.reduceLT, Nat.reduceEqDiff, Nat.reduceSub, Nat.reduceAdd, Nat.reduceMul, Int.natCast_one, Int.natCast_zero, Int.reduceEq, Int.reduceLT, Int.reduceLE, Int.reduceAdd, Int.reduceSub, decide_false, decide_true, Int.reduceToNat, sh_zero, Bool.not_true, Bool.not_false, Option.isNone_some, Option.isNone_none, Option.isSome_some, Option.isSome_none]; try with_reducible intro (base : Nat → Value))
  refine CondP.split (fun hl => ?_) (fun hl => ?_)
  · rcases hi with ⟨_, rfl⟩ | ⟨k, rfl, h1, h2⟩
    · simp at hl
    have hk : k < l.length := (List.getElem?_eq_some_iff.1 h1).1
    (simp -dsimp only [vc, Try.ty, Try.en, ↓reduceIte, Nat.reduceLT, Nat.reduceEqDiff, Nat.reduceSub, Nat.reduceAdd, Nat.reduceMul, Int.natCast_one, Int.natCast_zero, Int.reduceEq, Int.reduceLT, Int.reduceLE, Int.reduceAdd, Int.reduceSub, decide_false, decide_true, Int.reduceToNat, sh_zero, Bool.not_true, Bool.not_false, Option.isNone_some, Option.isNone_none, Option.isSome_some, Option.isSome_none]; try with_reducible intro (base : Nat → Value))
    refine SemV.draw (fun _ => True) [(0, true), (1, true), (2, true), (3, true), (4, true), (5, true), (6, true), (7, true), (8, true), (9, true), (10, true), (11, true)] Try.mixed (by kernel_rfl) (fun _ _ => trivial) ?_
    intro _ w1 e
    have h := h.same e
    (simp -dsimp only [vc, Try.ty, Try.en, ↓reduceIte, Nat.reduceLT, Nat.reduceEqDiff, Nat.reduceSub, Nat.reduceAdd, Nat.reduceMul, Int.natCast_one, Int.natCast_zero, Int.reduceEq, Int.reduceLT, Int.reduceLE, Int.reduceAdd, Int.reduceSub, decide_false, decide_true, Int.reduceToNat, sh_zero, Bool.not_true, Bool.not_false, Option.isNone_some, Option.isNone_none, Option.isSome_some, Option.isSome_none]; try with_reducible intro (base : Nat → Value))
    refine FloatP.slice 5 1 0 k none _ .i64 .i64 (by kernel_rfl) (by kernel_rfl) (by decide) (by omega) (by omega) (.inr ⟨rfl, rfl⟩) (.inl rfl) ?_
    (simp -dsimp only [vc, Try.ty, Try.en, ↓reduceIte, Nat.reduceLT, Nat.reduceEqDiff, Nat.reduceSub, Nat.reduceAdd, Nat.reduceMul, Int.natCast_one, Int.natCast_zero, Int.reduceEq, Int.reduceLT, Int.reduceLE, Int.reduceAdd, Int.reduceSub, decide_false, decide_true, Int.reduceToNat, sh_zero, Bool.not_true, Bool.not_false, Option.isNone_some, Option.isNone_none, Option.isSome_some, Option.isSome_none]; try with_reducible intro (base : Nat → Value))
    rw [IntWalk.i64_in _ (by omega)]
    refine FloatP.slice 5 1 (k + 1) l.length _ none .i64 .i64 (by kernel_rfl) (by kernel_rfl) (by decide) (by omega) hc (.inl rfl) (.inr ⟨rfl, rfl⟩) ?_
    (simp -dsimp only [vc, Try.ty, Try.en, ↓reduceIte, Nat.reduceLT, Nat.reduceEqDiff, Nat.reduceSub, Nat.reduceAdd, Nat.reduceMul, Int.natCast_one, Int.natCast_zero, Int.reduceEq, Int.reduceLT, Int.reduceLE, Int.reduceAdd, Int.reduceSub, decide_false, decide_true, Int.reduceToNat, sh_zero, Bool.not_true, Bool.not_false, Option.isNone_some, Option.isNone_none, Option.isSome_some, Option.isSome_none]; try with_reducible intro (base : Nat → Value))
    refine ResP.three rfl (by decide) ⟨h, .inr ⟨k, h1, h2, ?_⟩⟩
    simp [sa_zero]
  · rcases hi with ⟨h1, rfl⟩ | ⟨k, rfl, h1, h2⟩
    · (simp -dsimp only [vc, Try.ty, Try.en, ↓reduceIte, Nat.reduceLT, Nat.reduceEqDiff, Nat.reduceSub, Nat.reduceAdd, Nat.reduceMul, Int.natCast_one, Int.natCast_zero, Int.reduceEq, Int.reduceLT, Int.reduceLE, Int.reduceAdd, Int.reduceSub, decide_false, decide_true, Int.reduceToNat, sh_zero, Bool.not_true, Bool.not_false, Option.isNone_some, Option.isNone_none, Option.isSome_some, Option.isSome_none]; try with_reducible intro (base : Nat → Value))
      exact ResP.three rfl (by decide) ⟨h, .inl ⟨h1, rfl⟩⟩
    · simp at hl

/-! ### The pieces of bytes -/
def pcs : List UInt8 → List (List UInt8 × Bool)
  | [] => []
  | c :: r => if c = 10 then ([], true) :: pcs r else match pcs r with
    | [] => [([c], false)]
    | (p, e) :: q => (c :: p, e) :: q
theorem pcs_none : ∀ {l : List UInt8}, 10 ∉ l → l ≠ [] → pcs l = [(l, false)]
  | [], _, h => absurd rfl h
  | [c], h, _ => by
    have : c ≠ 10 := fun e => h (by simp [e])
    simp [pcs, this]
  | c :: d :: r, h, _ => by
    have h1 : c ≠ 10 := fun e => h (by simp [e])
    have h2 := pcs_none (l := d :: r) (fun e => h (.tail _ e)) (by simp)
    rw [pcs, if_neg h1, h2]
theorem pcs_some : ∀ {k : Nat} {l : List UInt8}, l[k]? = some 10 → 10 ∉ l.take k → pcs l = (l.take k, true) :: pcs (l.drop (k + 1))
  | 0, c :: r, h, _ => by
    simp at h
    subst h
    simp [pcs]
  | k + 1, c :: r, h, hn => by
    have h1 : c ≠ 10 := fun e => hn (by simp [e])
    have h2 := pcs_some (k := k) (l := r) (by simpa using h) (fun e => hn (by simp [e]))
    rw [pcs, if_neg h1, h2]
    simp
  | _, [], h, _ => by simp at h
/-- what a piece's arguments are -/
def pieceA (x : List UInt8 × Bool) (args : List Value) (O : List Res) (L : List Fact) : Prop := ∃ p c, args = [.slice p x.1.length c, .bool x.2] ∧ x.1.length ≤ c ∧ Rdb O L p (x.1.map bv)

def cellLen (w : World) (b : Nat) : Nat := match (w.heap[b]? : Option Obj) with
  | some (.cells cs _ _) => match (cs[0]? : Option Value) with
    | some (.slice _ n _) => n
    | _ => 0
  | _ => 0
theorem pieces_ok {O : List Res} {L : List Fact} {a : Option Addr} {c bb : Nat} {l : List UInt8} (ha : Rdb O L a (l.map bv)) (hc : l.length ≤ c) (hm : l.length ≤ 2^62) :
    IterOK Try.prog 21 [.pointer (some ⟨bb, 0, none⟩)] pieceA (pcs l) [cel bb 27 [.slice a l.length c]] O L := by
  intro y ζ S Sx z w hy h
  refine Ret.enter 6 Try.func21 rfl ⟨by simp, by simp [Try.ntmps21]⟩ (by kernel_rfl) ?_
  (simp -dsimp only [vc, Try.ty, Try.en, ↓reduceIte, Nat.reduceLT, Nat.reduceEqDiff, Nat.reduceSub, Nat.reduceAdd, Nat.reduceMul, Int.natCast_one, Int.natCast_zero, Int.reduceEq, Int.reduceLT, Int.reduceLE, Int.reduceAdd, Int.reduceSub, decide_false, decide_true, Int.reduceToNat, sh_zero, Bool.not_true, Bool.not_false, Option.isNone_some, Option.isNone_none, Option.isSome_some, Option.isSome_none, Try.ntmps21]; try with_reducible intro (base : Nat → Value))
  refine SemV.loop (fun loc w => ∃ pre rest z a' c', pre ++ pcs rest = pcs l ∧ (∃ v1 v2 v3, loc = [.func (.yield y) #[] #[], .pointer (some ⟨bb, 0, none⟩), undef, v1, v2, v3]) ∧
      Ctx w ((S pre z).1 ++ (cel bb 27 [.slice a' rest.length c'] :: O)) ((S pre z).2 ++ L) ∧ Rdb O L a' (rest.map bv) ∧ rest.length ≤ c' ∧ rest.length ≤ 2^62)
    (fun _ w => cellLen w bb) (by kernel_rfl) ⟨[], l, z, a, c, rfl, ⟨_, _, _, rfl⟩, h, ha, hc, hm⟩ ?_
  rintro loc w ⟨pre, rest, z, a', c', hpre, ⟨v1, v2, v3, rfl⟩, h, ha, hc, hm⟩
  (simp -dsimp only [vc, Try.ty, Try.en, ↓reduceIte, Nat.reduceLT, Nat.reduceEqDiff, Nat.reduceSub, Nat.reduceAdd, Nat.reduceMul, Int.natCast_one, Int.natCast_zero, Int.reduceEq, Int.reduceLT, Int.reduceLE, Int.reduceAdd, Int.reduceSub, decide_false, decide_true, Int.reduceToNat, sh_zero, Bool.not_true, Bool.not_false, Option.isNone_some, Option.isNone_none, Option.isSome_some, Option.isSome_none]; try with_reducible intro (base : Nat → Value))
  refine RunV.load0 (h.front.rd_own) rfl (by kernel_rfl) ?_
  (simp -dsimp only [vc, Try.ty, Try.en, ↓reduceIte, Nat.reduceLT, Nat.reduceEqDiff, Nat.reduceSub, Nat.reduceAdd, Nat.reduceMul, Int.natCast_one, Int.natCast_zero, Int.reduceEq, Int.reduceLT, Int.reduceLE, Int.reduceAdd, Int.reduceSub, decide_false, decide_true, Int.reduceToNat, sh_zero, Bool.not_true, Bool.not_false, Option.isNone_some, Option.isNone_none, Option.isSome_some, Option.isSome_none]; try with_reducible intro (base : Nat → Value))
  refine CondP.split (fun hl => ?_) (fun hl => ?_)
  · have hl : 0 < rest.length := by simpa using hl
    have hne : rest ≠ [] := by rintro rfl; simp at hl
    (simp -dsimp only [vc, Try.ty, Try.en, ↓reduceIte, Nat.reduceLT, Nat.reduceEqDiff, Nat.reduceSub, Nat.reduceAdd, Nat.reduceMul, Int.natCast_one, Int.natCast_zero, Int.reduceEq, Int.reduceLT, Int.reduceLE, Int.reduceAdd, Int.reduceSub, decide_false, decide_true, Int.reduceToNat, sh_zero, Bool.not_true, Bool.not_false, Option.isNone_some, Option.isNone_none, Option.isSome_some, Option.isSome_none]; try with_reducible intro (base : Nat → Value))
    refine RunV.load0 (h.front.rd_own) rfl (by kernel_rfl) ?_
    (simp -dsimp only [vc, Try.ty, Try.en, ↓reduceIte, Nat.reduceLT, Nat.reduceEqDiff, Nat.reduceSub, Nat.reduceAdd, Nat.reduceMul, Int.natCast_one, Int.natCast_zero, Int.reduceEq, Int.reduceLT, Int.reduceLE, Int.reduceAdd, Int.reduceSub, decide_false, decide_true, Int.reduceToNat, sh_zero, Bool.not_true, Bool.not_false, Option.isNone_some, Option.isNone_none, Option.isSome_some, Option.isSome_none]; try with_reducible intro (base : Nat → Value))
    refine RunV.lit 5 (.int .u8 0) 1 (len := 1) (parts := [(0, .int .u8 10)]) [.int .u8 10] h (by kernel_rfl) (by kernel_rfl) (by kernel_rfl) (by decide) (by decide) (by kernel_rfl) fun s w1 h1 => ?_
    (simp -dsimp only [vc, Try.ty, Try.en, ↓reduceIte, Nat.reduceLT, Nat.reduceEqDiff, Nat.reduceSub, Nat.reduceAdd, Nat.reduceMul, Int.natCast_one, Int.natCast_zero, Int.reduceEq, Int.reduceLT, Int.reduceLE, Int.reduceAdd, Int.reduceSub, decide_false, decide_true, Int.reduceToNat, sh_zero, Bool.not_true, Bool.not_false, Option.isNone_some, Option.isNone_none, Option.isSome_some, Option.isSome_none]; try with_reducible intro (base : Nat → Value))
    have h1 := h1.keep_cel
    refine (cut_ok 10 h1 (((ha.cons _).append _).more fun φ hφ => by simp [hφ]) (.of_arr mem0) hne hc hm).mono ?_
    rintro v w2 ⟨h2, hv⟩
    have h2 := h2.tailF
    -- what was cut: a piece, and the rest
    obtain ⟨p, cp, e, r, cr, rest', hx, hv, hp1, hp2, hr1, hr2, hlt⟩ : ∃ (p : Option Addr) (cp : Nat) (x : List UInt8 × Bool) (r : Option Addr) (cr : Nat) (rest' : List UInt8), pcs rest = x :: pcs rest' ∧
        v = .tuple #[.slice p x.1.length cp, .slice r rest'.length cr, .bool x.2] ∧ Rdb O L p (x.1.map bv) ∧ x.1.length ≤ cp ∧ Rdb O L r (rest'.map bv) ∧ rest'.length ≤ cr ∧ rest'.length < rest.length := by
      rcases hv with ⟨h3, rfl⟩ | ⟨k, h3, h4, rfl⟩
      · exact ⟨a', c', (rest, false), none, 0, [], by rw [pcs_none h3 hne]; rfl, rfl, ha, hc, fun _ _ _ _ => .inl rfl, Nat.le_refl _, hl⟩
      · have hk : k < rest.length := (List.getElem?_eq_some_iff.1 h3).1
        refine ⟨a', c', (rest.take k, true), sa a' (k + 1) c' 1, c' - (k + 1), rest.drop (k + 1), pcs_some h3 h4, ?_, ?_, ?_, ?_, ?_, ?_⟩
        · simp only [List.length_take, List.length_drop]
          rw [Nat.min_eq_left (by omega)]
        · have := ha.take k
          rwa [← List.map_take] at this
        · simp; omega
        · have := ha.sa' (l := k + 1) (c := c') (sz := 1) (by simpa using hc)
          rwa [Nat.mul_one, ← List.map_drop] at this
        · simp; omega
        · simp; omega
    subst hv
    (simp -dsimp only [vc, Try.ty, Try.en, ↓reduceIte, Nat.reduceLT, Nat.reduceEqDiff, Nat.reduceSub, Nat.reduceAdd, Nat.reduceMul, Int.natCast_one, Int.natCast_zero, Int.reduceEq, Int.reduceLT, Int.reduceLE, Int.reduceAdd, Int.reduceSub, decide_false, decide_true, Int.reduceToNat, sh_zero, Bool.not_true, Bool.not_false, Option.isNone_some, Option.isNone_none, Option.isSome_some, Option.isSome_none]; try with_reducible intro (base : Nat → Value))
    refine Yld.mono (hy pre e _ z w2 [cel bb 27 [.slice a' rest.length c']] L ⟨pcs rest', by rw [← hpre, hx]; simp⟩ (fun _ hm => hm) (by simpa using h2) ⟨p, cp, rfl, hp2, hp1.append _⟩) ?_
    rintro v w3 (⟨rfl, z', h3⟩ | ⟨rfl, z', h3⟩)
    · (simp -dsimp only [vc, Try.ty, Try.en, ↓reduceIte, Nat.reduceLT, Nat.reduceEqDiff, Nat.reduceSub, Nat.reduceAdd, Nat.reduceMul, Int.natCast_one, Int.natCast_zero, Int.reduceEq, Int.reduceLT, Int.reduceLE, Int.reduceAdd, Int.reduceSub, decide_false, decide_true, Int.reduceToNat, sh_zero, Bool.not_true, Bool.not_false, Option.isNone_some, Option.isNone_none, Option.isSome_some, Option.isSome_none]; try with_reducible intro (base : Nat → Value))
      have h3 : Ctx w3 ((S (pre ++ [e]) z').1 ++ (cel bb 27 [.slice a' rest.length c'] :: O)) ((S (pre ++ [e]) z').2 ++ L) := by simpa using h3
      refine RunV.st0 h3.front (by kernel_rfl) rfl rfl (by simp) fun w4 h4 => ?_
      (simp -dsimp only [vc, Try.ty, Try.en, ↓reduceIte, Nat.reduceLT, Nat.reduceEqDiff, Nat.reduceSub, Nat.reduceAdd, Nat.reduceMul, Int.natCast_one, Int.natCast_zero, Int.reduceEq, Int.reduceLT, Int.reduceLE, Int.reduceAdd, Int.reduceSub, decide_false, decide_true, Int.reduceToNat, sh_zero, Bool.not_true, Bool.not_false, Option.isNone_some, Option.isNone_none, Option.isSome_some, Option.isSome_none]; try with_reducible intro (base : Nat → Value))
      have hl4 : cellLen w4 bb = rest'.length := by
        have := h4.own_get
        simp [cellLen, this]
      have hl0 : cellLen w bb = rest.length := by
        have := h.front.own_get
        simp [cellLen, this]
      have h4 := h4.back
      refine ⟨⟨pre ++ [e], rest', z', r, cr, ?_, ⟨_, _, _, rfl⟩, ?_, hr1, hr2, by omega⟩, ?_⟩
      · rw [List.append_assoc, List.singleton_append, ← hx, hpre]
      · simpa using h4
      · rw [hl4, hl0]; exact hlt
    · (simp -dsimp only [vc, Try.ty, Try.en, ↓reduceIte, Nat.reduceLT, Nat.reduceEqDiff, Nat.reduceSub, Nat.reduceAdd, Nat.reduceMul, Int.natCast_one, Int.natCast_zero, Int.reduceEq, Int.reduceLT, Int.reduceLE, Int.reduceAdd, Int.reduceSub, decide_false, decide_true, Int.reduceToNat, sh_zero, Bool.not_true, Bool.not_false, Option.isNone_some, Option.isNone_none, Option.isSome_some, Option.isSome_none]; try with_reducible intro (base : Nat → Value))
      refine ResP.zero rfl (.inr ⟨pre ++ [e], z', ?_, ?_⟩)
      · rw [← hpre, hx]
        exact ⟨pcs rest', by simp⟩
      · have h3 : Ctx w3 ((Sx (pre ++ [e]) z').1 ++ (cel bb 27 [.slice a' rest.length c'] :: O)) ((Sx (pre ++ [e]) z').2 ++ L) := by simpa using h3
        exact h3.front.drop
  · have hl : rest.length = 0 := by simpa using hl
    have hne : rest = [] := List.eq_nil_of_length_eq_zero hl
    subst hne
    (simp -dsimp only [vc, Try.ty, Try.en, ↓reduceIte, Nat.reduceLT, Nat.reduceEqDiff, Nat.reduceSub, Nat.reduceAdd, Nat.reduceMul, Int.natCast_one, Int.natCast_zero, Int.reduceEq, Int.reduceLT, Int.reduceLE, Int.reduceAdd, Int.reduceSub, decide_false, decide_true, Int.reduceToNat, sh_zero, Bool.not_true, Bool.not_false, Option.isNone_some, Option.isNone_none, Option.isSome_some, Option.isSome_none]; try with_reducible intro (base : Nat → Value))
    refine ResP.zero rfl (.inl ⟨z, ?_⟩)
    simp [pcs] at hpre
    subst hpre
    exact h.front.drop
end Go.Proofs.Ytloeiefijmbkiaa
