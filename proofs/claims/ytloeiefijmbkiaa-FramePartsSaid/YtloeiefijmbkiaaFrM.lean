/-
  'scantlinglaw05.FrameOver' returns true whatever comes, and leaves what came as it was. No condition.
-/
import Derived.Test.YtloeiefijmbkiaaRows
import Derived.Test.YtloeiefijmbkiaaFrI
set_option linter.unusedSimpArgs false
set_option linter.unusedVariables false
set_option linter.unusedSectionVars false
namespace Go.Proofs.Ytloeiefijmbkiaa.overf
open Go.ChangeShapes Go.WideShapes Go.ChangeAt Go.RowKit Go.E

theorem feed_plain : ∀ (l h : List UInt8), 10 ∉ l → h.length + l.length ≤ 65536 → feed h l = ([], h ++ l, false)
  | [], h, _, _ => by simp [feed]
  | c :: r, h, hn, hl => by
    have h1 : c ≠ 10 := fun e => hn (by simp [e])
    simp only [List.length_cons] at hl
    rw [feed, if_neg h1, if_neg (by omega), feed_plain r _ (fun e => hn (by simp [e])) (by simp; omega)]
    simp
theorem feed_much : ∀ (l h : List UInt8), 10 ∉ l → h.length ≤ 65536 → 65536 < h.length + l.length → feed h l = ([], [], true)
  | [], h, _, h1, h2 => by simp at h2; omega
  | c :: r, h, hn, h1, h2 => by
    have h3 : c ≠ 10 := fun e => hn (by simp [e])
    simp only [List.length_cons] at h2
    rw [feed, if_neg h3]
    split
    · rfl
    · exact feed_much r _ (fun e => hn (by simp [e])) (by simp; omega) (by simp; omega)
theorem feed_short : ∀ (l h : List UInt8), h.length + l.length ≤ 65536 → (feed h l).2.2 = false
  | [], h, _ => rfl
  | c :: r, h, hl => by
    simp only [List.length_cons] at hl
    rw [feed]
    split
    · exact feed_short r [] (by simp; omega)
    · rw [if_neg (by omega)]
      exact feed_short r _ (by simp; omega)
theorem feed_end (l h : List UInt8) (ho : (feed h l).2.2 = false) : feed h (l ++ [10]) = ((feed h l).1 ++ [(feed h l).2.1], [], false) := by
  rw [feed_append, if_neg (by simp [ho])]
  simp [feed]
theorem no_nl (k : Nat) : 10 ∉ List.replicate k (120 : UInt8) := by
  intro h
  have := List.eq_of_mem_replicate h
  cases this

theorem step_not {all : List UInt8} (l : List UInt8) (ho : (feed [] all).2.2 = false) : stepB all l = all ++ l := if_neg (by simp [ho])
theorem new_not {all : List UInt8} (l : List UInt8) (ho : (feed [] all).2.2 = false) : newL all l = (feed (feed [] all).2.1 l).1 := if_neg (by simp [ho])
theorem step_over {all : List UInt8} (l : List UInt8) (ho : (feed [] all).2.2 = true) : stepB all l = all := if_pos ho
theorem new_over {all : List UInt8} (l : List UInt8) (ho : (feed [] all).2.2 = true) : newL all l = [] := if_pos ho

theorem plain1 (head : List UInt8) (hh : head.length ≤ 4096) : (feed [] (stepB [] (head ++ [10]))).2 = ([], false) ∧ 0 < (newL [] (head ++ [10])).length := by
  have h0 : (feed [] []).2.2 = false := rfl
  have h1 := feed_end head [] (feed_short head [] (by simp; omega))
  rw [step_not _ h0, new_not _ h0]
  show (feed [] (head ++ [10])).2 = _ ∧ 0 < (feed [] (head ++ [10])).1.length
  rw [h1]
  simp
theorem plain2 (all : List UInt8) (k : Nat) (h : (feed [] all).2 = ([], false)) (hk : k ≤ 65536) : (feed [] (stepB all (List.replicate k 120))).2 = (List.replicate k 120, false) ∧ newL all (List.replicate k 120) = [] := by
  have h0 : (feed [] all).2.2 = false := by rw [h]
  have h1 := feed_plain (List.replicate k 120) [] (no_nl k) (by simpa using hk)
  refine ⟨?_, ?_⟩
  · rw [step_feed2 _ _ h0, h, h1]; simp
  · rw [new_not _ h0, h, h1]
theorem plain3 (all : List UInt8) (k m : Nat) (h : (feed [] all).2 = (List.replicate k 120, false)) (hk : k + m ≤ 65536) :
    (feed [] (stepB all (List.replicate m 120 ++ [10]))).2 = ([], false) ∧ newL all (List.replicate m 120 ++ [10]) = [List.replicate (k + m) 120] := by
  have h0 : (feed [] all).2.2 = false := by rw [h]
  have h1 := feed_plain (List.replicate m 120) (List.replicate k 120) (no_nl m) (by simpa using hk)
  have h2 := feed_end (List.replicate m 120) (List.replicate k 120) (by rw [h1])
  rw [h1] at h2
  refine ⟨?_, ?_⟩
  · rw [step_feed2 _ _ h0, h, h2]
  · rw [new_not _ h0, h, h2]; simp [List.replicate_append_replicate]
theorem plain4 (all : List UInt8) (k m : Nat) (h : (feed [] all).2 = (List.replicate k 120, false)) (hk : k ≤ 65536) (hm : 65536 < k + m) :
    (feed [] (stepB all (List.replicate m 120 ++ [10]))).2 = ([], true) ∧ newL all (List.replicate m 120 ++ [10]) = [] := by
  have h0 : (feed [] all).2.2 = false := by rw [h]
  have h1 := feed_much (List.replicate m 120) (List.replicate k 120) (no_nl m) (by simpa using hk) (by simpa using hm)
  have h2 := feed_append (List.replicate m 120) [10] (List.replicate k 120)
  rw [h1, if_pos rfl] at h2
  refine ⟨?_, ?_⟩
  · rw [step_feed2 _ _ h0, h, h2]
  · rw [new_not _ h0, h, h2]

theorem walk {w : World} {O : List Res} {L : List Fact} {a b : Option Addr} {ca cb pn : Nat} {la lb : List UInt8} {more : Int} (h : Ctx w O L) (ha : Rdb O L a (la.map bv)) (hb : Rdb O L b (lb.map bv)) (hca : la.length ≤ ca) (hcb : lb.length ≤ cb)
    (hmore : -128 ≤ more ∧ more ≤ 127) (hpn : pn ≤ 65535) :
    Ret Try.prog 5 #[.slice a la.length ca, .int .i8 more, .slice b lb.length cb, .int .u16 pn] w fun v w' => v = .bool true ∧ ∃ L', Ctx w' O L' ∧ ∀ φ ∈ L, φ ∈ L' := by
  refine Ret.enter 22 Try.func5 rfl ⟨by simp, by simp [Try.ntmps5]⟩ (by kernel_rfl) ?_
  (simp -dsimp only [vc, Try.ty, Try.en, ↓reduceIte, Nat.reduceLT, Nat.reduceEqDiff, Nat.reduceSub, Nat.reduceAdd, Nat.reduceMul, Int.natCast_one, Int.natCast_zero, Int.reduceEq, Int.reduceLT, Int.reduceLE, Int.reduceAdd, Int.reduceSub, decide_false, decide_true, Int.reduceToNat, sh_zero, Bool.not_true, Bool.not_false, Option.isNone_some, Option.isNone_none, Option.isSome_some, Option.isSome_none, Try.ntmps5]; try with_reducible intro (base : Nat → Value))
  generalize hd : decide ((4096 : Int) < (la.length : Int)) = d
  cases d with
  | true =>
    (simp -dsimp only [vc, Try.ty, Try.en, ↓reduceIte, Nat.reduceLT, Nat.reduceEqDiff, Nat.reduceSub, Nat.reduceAdd, Nat.reduceMul, Int.natCast_one, Int.natCast_zero, Int.reduceEq, Int.reduceLT, Int.reduceLE, Int.reduceAdd, Int.reduceSub, decide_false, decide_true, Int.reduceToNat, sh_zero, Bool.not_true, Bool.not_false, Option.isNone_some, Option.isNone_none, Option.isSome_some, Option.isSome_none]; try with_reducible intro (base : Nat → Value))
    refine (works_ok h).mono ?_
    rintro v w1 ⟨rfl, h1⟩
    (simp -dsimp only [vc, Try.ty, Try.en, ↓reduceIte, Nat.reduceLT, Nat.reduceEqDiff, Nat.reduceSub, Nat.reduceAdd, Nat.reduceMul, Int.natCast_one, Int.natCast_zero, Int.reduceEq, Int.reduceLT, Int.reduceLE, Int.reduceAdd, Int.reduceSub, decide_false, decide_true, Int.reduceToNat, sh_zero, Bool.not_true, Bool.not_false, Option.isNone_some, Option.isNone_none, Option.isSome_some, Option.isSome_none]; try with_reducible intro (base : Nat → Value))
    exact ResP.one rfl (by decide) ⟨rfl, L, h1, fun _ hφ => hφ⟩
  | false =>
    have hla : la.length ≤ 4096 := by simp at hd; omega
    (simp -dsimp only [vc, Try.ty, Try.en, ↓reduceIte, Nat.reduceLT, Nat.reduceEqDiff, Nat.reduceSub, Nat.reduceAdd, Nat.reduceMul, Int.natCast_one, Int.natCast_zero, Int.reduceEq, Int.reduceLT, Int.reduceLE, Int.reduceAdd, Int.reduceSub, decide_false, decide_true, Int.reduceToNat, sh_zero, Bool.not_true, Bool.not_false, Option.isNone_some, Option.isNone_none, Option.isSome_some, Option.isSome_none]; try with_reducible intro (base : Nat → Value))
    refine CondP.split (fun hd2 => ?_) (fun hd2 => ?_)
    · (simp -dsimp only [vc, Try.ty, Try.en, ↓reduceIte, Nat.reduceLT, Nat.reduceEqDiff, Nat.reduceSub, Nat.reduceAdd, Nat.reduceMul, Int.natCast_one, Int.natCast_zero, Int.reduceEq, Int.reduceLT, Int.reduceLE, Int.reduceAdd, Int.reduceSub, decide_false, decide_true, Int.reduceToNat, sh_zero, Bool.not_true, Bool.not_false, Option.isNone_some, Option.isNone_none, Option.isSome_some, Option.isSome_none]; try with_reducible intro (base : Nat → Value))
      refine (works_ok h).mono ?_
      rintro v w1 ⟨rfl, h1⟩
      (simp -dsimp only [vc, Try.ty, Try.en, ↓reduceIte, Nat.reduceLT, Nat.reduceEqDiff, Nat.reduceSub, Nat.reduceAdd, Nat.reduceMul, Int.natCast_one, Int.natCast_zero, Int.reduceEq, Int.reduceLT, Int.reduceLE, Int.reduceAdd, Int.reduceSub, decide_false, decide_true, Int.reduceToNat, sh_zero, Bool.not_true, Bool.not_false, Option.isNone_some, Option.isNone_none, Option.isSome_some, Option.isSome_none]; try with_reducible intro (base : Nat → Value))
      exact ResP.one rfl (by decide) ⟨rfl, L, h1, fun _ hφ => hφ⟩
    have hlb : lb.length ≤ 4096 := by simp at hd2; omega
    (simp -dsimp only [vc, Try.ty, Try.en, ↓reduceIte, Nat.reduceLT, Nat.reduceEqDiff, Nat.reduceSub, Nat.reduceAdd, Nat.reduceMul, Int.natCast_one, Int.natCast_zero, Int.reduceEq, Int.reduceLT, Int.reduceLE, Int.reduceAdd, Int.reduceSub, decide_false, decide_true, Int.reduceToNat, sh_zero, Bool.not_true, Bool.not_false, Option.isNone_some, Option.isNone_none, Option.isSome_some, Option.isSome_none]; try with_reducible intro (base : Nat → Value))
    refine (new_ok h).mono ?_
    rintro v w1 ⟨f, rfl, h1⟩
    (simp -dsimp only [vc, Try.ty, Try.en, ↓reduceIte, Nat.reduceLT, Nat.reduceEqDiff, Nat.reduceSub, Nat.reduceAdd, Nat.reduceMul, Int.natCast_one, Int.natCast_zero, Int.reduceEq, Int.reduceLT, Int.reduceLE, Int.reduceAdd, Int.reduceSub, decide_false, decide_true, Int.reduceToNat, sh_zero, Bool.not_true, Bool.not_false, Option.isNone_some, Option.isNone_none, Option.isSome_some, Option.isSome_none]; try with_reducible intro (base : Nat → Value))
    refine (copied_ok h1 (ha.cons _) (by omega)).mono ?_
    rintro v w2 ⟨b2, c2, rfl, h2⟩
    (simp -dsimp only [vc, Try.ty, Try.en, ↓reduceIte, Nat.reduceLT, Nat.reduceEqDiff, Nat.reduceSub, Nat.reduceAdd, Nat.reduceMul, Int.natCast_one, Int.natCast_zero, Int.reduceEq, Int.reduceLT, Int.reduceLE, Int.reduceAdd, Int.reduceSub, decide_false, decide_true, Int.reduceToNat, sh_zero, Bool.not_true, Bool.not_false, Option.isNone_some, Option.isNone_none, Option.isSome_some, Option.isSome_none]; try with_reducible intro (base : Nat → Value))
    refine RunV.lit1 5 (.int .u8 0) h2 (by kernel_rfl) (by kernel_rfl) (by kernel_rfl) rfl rfl fun s3 w3 h3 => ?_
    (simp -dsimp only [vc, Try.ty, Try.en, ↓reduceIte, Nat.reduceLT, Nat.reduceEqDiff, Nat.reduceSub, Nat.reduceAdd, Nat.reduceMul, Int.natCast_one, Int.natCast_zero, Int.reduceEq, Int.reduceLT, Int.reduceLE, Int.reduceAdd, Int.reduceSub, decide_false, decide_true, Int.reduceToNat, sh_zero, Bool.not_true, Bool.not_false, Option.isNone_some, Option.isNone_none, Option.isSome_some, Option.isSome_none]; try with_reducible intro (base : Nat → Value))
    refine RunV.append (.int .u8 0) h3.swap (h3.rd_own) (by simp) (by simp [Value.oneCell']) (by kernel_rfl) (by kernel_rfl) (by decide) (by kernel_rfl) rfl ?_ ?_ fun a4 c4 w4 h4 => ?_
    · rw [show tby Try.prog 5 = 1 from (by kernel_rfl)]; omega
    · simp only [maxLen]; omega
    (simp -dsimp only [vc, Try.ty, Try.en, ↓reduceIte, Nat.reduceLT, Nat.reduceEqDiff, Nat.reduceSub, Nat.reduceAdd, Nat.reduceMul, Int.natCast_one, Int.natCast_zero, Int.reduceEq, Int.reduceLT, Int.reduceLE, Int.reduceAdd, Int.reduceSub, decide_false, decide_true, Int.reduceToNat, sh_zero, Bool.not_true, Bool.not_false, Option.isNone_some, Option.isNone_none, Option.isSome_some, Option.isSome_none]; try with_reducible intro (base : Nat → Value))
    rw [show la.map bv ++ [Value.int .u8 10] = (la ++ [10]).map bv by simp [bv], show la.length + 1 = (la ++ [10]).length by simp] at h4
    rw [show la.length + 1 = (la ++ [10]).length by simp]
    refine (feedA_ok (all := []) (Ctx.ord [2] h4) Rdb.buf (buf_le h4) (by simp; omega)).mono ?_
    rintro v w5 ⟨l5, c5, rfl, hl5, h5⟩
    obtain ⟨p1, p1'⟩ := plain1 la hla
    (simp -dsimp only [vc, Try.ty, Try.en, ↓reduceIte, Nat.reduceLT, Nat.reduceEqDiff, Nat.reduceSub, Nat.reduceAdd, Nat.reduceMul, Int.natCast_one, Int.natCast_zero, Int.reduceEq, Int.reduceLT, Int.reduceLE, Int.reduceAdd, Int.reduceSub, decide_false, decide_true, Int.reduceToNat, sh_zero, Bool.not_true, Bool.not_false, Option.isNone_some, Option.isNone_none, Option.isSome_some, Option.isSome_none, fedV, p1, Bool.false_eq_true]; try with_reducible intro (base : Nat → Value))
    rw [show IntKind.i64.wrap more = more from IntWalk.i64_in _ (by omega), IntWalk.i64_in _ (by omega)]
    obtain ⟨n, hn⟩ : ∃ n : Nat, (n : Int) = 65536 + more := ⟨(65536 + more).toNat, by omega⟩
    rw [← hn]
    refine RunV.make 5 (.int .u8 0) h5 (by kernel_rfl) (by kernel_rfl) (by kernel_rfl) rfl ?_ (by omega) (Nat.le_refl n) fun s6 w6 h6 => ?_
    · rw [show tby Try.prog 5 = 1 from (by kernel_rfl)]; omega
    (simp -dsimp only [vc, Try.ty, Try.en, ↓reduceIte, Nat.reduceLT, Nat.reduceEqDiff, Nat.reduceSub, Nat.reduceAdd, Nat.reduceMul, Int.natCast_one, Int.natCast_zero, Int.reduceEq, Int.reduceLT, Int.reduceLE, Int.reduceAdd, Int.reduceSub, decide_false, decide_true, Int.reduceToNat, sh_zero, Bool.not_true, Bool.not_false, Option.isNone_some, Option.isNone_none, Option.isSome_some, Option.isSome_none]; try with_reducible intro (base : Nat → Value))
    refine SemV.loop (fun loc w => ∃ (i : Nat), i ≤ n ∧
        loc = [.slice a la.length ca, .int .i8 more, .slice b lb.length cb, .int .u16 pn, undef, undef, undef, undef, .bool false, .pointer (some ⟨f, 0, none⟩), .slice l5 (newL [] (la ++ [10])).length c5, .int .i64 0, .int .i64 n, .slice (some ⟨s6, 0, none⟩) n n, .int .i64 i, undef, undef, undef, undef, undef, undef, undef] ∧
        Ctx w (buf 5 1 (some ⟨s6, 0, none⟩) n n ((List.replicate i 120).map bv ++ List.replicate (n - i) (Value.int .u8 0)) :: frA f (stepB [] (la ++ [10])) :: O) L)
      (fun loc _ => n - num (loc.getD 14 undef)) (by kernel_rfl) ⟨0, by omega, rfl, ((h6.del 2).del 2).tailF⟩ ?_
    rintro loc w7 ⟨i, hi, rfl, h7⟩
    (simp -dsimp only [vc, Try.ty, Try.en, ↓reduceIte, Nat.reduceLT, Nat.reduceEqDiff, Nat.reduceSub, Nat.reduceAdd, Nat.reduceMul, Int.natCast_one, Int.natCast_zero, Int.reduceEq, Int.reduceLT, Int.reduceLE, Int.reduceAdd, Int.reduceSub, decide_false, decide_true, Int.reduceToNat, sh_zero, Bool.not_true, Bool.not_false, Option.isNone_some, Option.isNone_none, Option.isSome_some, Option.isSome_none]; try with_reducible intro (base : Nat → Value))
    refine CondP.split (fun hlt => ?_) (fun hlt => ?_)
    · have hlt : i < n := by simpa using hlt
      (simp -dsimp only [vc, Try.ty, Try.en, ↓reduceIte, Nat.reduceLT, Nat.reduceEqDiff, Nat.reduceSub, Nat.reduceAdd, Nat.reduceMul, Int.natCast_one, Int.natCast_zero, Int.reduceEq, Int.reduceLT, Int.reduceLE, Int.reduceAdd, Int.reduceSub, decide_false, decide_true, Int.reduceToNat, sh_zero, Bool.not_true, Bool.not_false, Option.isNone_some, Option.isNone_none, Option.isSome_some, Option.isSome_none]; try with_reducible intro (base : Nat → Value))
      refine ⟨⟨by omega, by omega⟩, ?_⟩
      refine RunV.stBuf h7 (by kernel_rfl) rfl rfl hlt fun w8 h8 => ?_
      (simp -dsimp only [vc, Try.ty, Try.en, ↓reduceIte, Nat.reduceLT, Nat.reduceEqDiff, Nat.reduceSub, Nat.reduceAdd, Nat.reduceMul, Int.natCast_one, Int.natCast_zero, Int.reduceEq, Int.reduceLT, Int.reduceLE, Int.reduceAdd, Int.reduceSub, decide_false, decide_true, Int.reduceToNat, sh_zero, Bool.not_true, Bool.not_false, Option.isNone_some, Option.isNone_none, Option.isSome_some, Option.isSome_none]; try with_reducible intro (base : Nat → Value))
      rw [IntWalk.i64_in _ (by omega)]
      refine ⟨⟨i + 1, hlt, rfl, ?_⟩, ?_⟩
      · have e : ((List.replicate i 120).map bv ++ List.replicate (n - i) (Value.int .u8 0)).set i (.int .u8 120) = (List.replicate (i + 1) 120).map bv ++ List.replicate (n - (i + 1)) (.int .u8 0) := by
          rw [List.set_append_right _ _ (by simp), show n - i = (n - (i + 1)) + 1 by omega, List.replicate_succ]
          simp only [List.length_map, List.length_replicate, Nat.sub_self, List.set_cons_zero]
          rw [show List.replicate (i + 1) (120 : UInt8) = List.replicate i 120 ++ [120] from List.replicate_succ', List.map_append, List.append_assoc]
          rfl
        rw [← e]
        exact h8
      · simp [num]; omega
    · have hge : i = n := by simp at hlt; omega
      subst hge
      rw [Nat.sub_self, List.replicate_zero, List.append_nil] at h7
      (simp -dsimp only [vc, Try.ty, Try.en, ↓reduceIte, Nat.reduceLT, Nat.reduceEqDiff, Nat.reduceSub, Nat.reduceAdd, Nat.reduceMul, Int.natCast_one, Int.natCast_zero, Int.reduceEq, Int.reduceLT, Int.reduceLE, Int.reduceAdd, Int.reduceSub, decide_false, decide_true, Int.reduceToNat, sh_zero, Bool.not_true, Bool.not_false, Option.isNone_some, Option.isNone_none, Option.isSome_some, Option.isSome_none]; try with_reducible intro (base : Nat → Value))
      rw [show IntKind.i64.wrap (pn : Int) = (pn : Int) from IntWalk.i64_in _ (by omega), IntWalk.i64_in _ (by omega)]
      refine ⟨by omega, ?_⟩
      intro base
      obtain ⟨k, hk⟩ : ∃ k, k = pn % (i + 1) := ⟨_, rfl⟩
      have hki : k ≤ i := by have := Nat.mod_lt pn (show 0 < i + 1 by omega); omega
      have hkp : k ≤ 65535 := by have := Nat.mod_le pn (i + 1); omega
      rw [show ((pn : Int).tmod ((i : Int) + 1)) = (k : Int) by rw [hk]; exact (Int.ofNat_tmod pn (i + 1)).symm]
      refine RunV.slice 5 1 0 k none _ .i64 .i64 (by kernel_rfl) (by kernel_rfl) (by decide) (by omega) hki (.inr ⟨rfl, rfl⟩) (.inl rfl) ?_
      (simp -dsimp only [vc, Try.ty, Try.en, ↓reduceIte, Nat.reduceLT, Nat.reduceEqDiff, Nat.reduceSub, Nat.reduceAdd, Nat.reduceMul, Int.natCast_one, Int.natCast_zero, Int.reduceEq, Int.reduceLT, Int.reduceLE, Int.reduceAdd, Int.reduceSub, decide_false, decide_true, Int.reduceToNat, sh_zero, Bool.not_true, Bool.not_false, Option.isNone_some, Option.isNone_none, Option.isSome_some, Option.isSome_none]; try with_reducible intro (base : Nat → Value))
      rw [sa_zero, Nat.sub_zero, Nat.sub_zero]
      have hr8 : Rdb (buf 5 1 (some ⟨s6, 0, none⟩) i i ((List.replicate i 120).map bv) :: frA f (stepB [] (la ++ [10])) :: O) L (some ⟨s6, 0, none⟩) ((List.replicate k 120).map bv) := by
        have := (Rdb.buf (T := 5) (size := 1) (n := i) (c := i) (O := frA f (stepB [] (la ++ [10])) :: O) (L := L) (a := some ⟨s6, 0, none⟩) (vs := (List.replicate i 120).map bv)).take k
        rwa [← List.map_take, List.take_replicate, Nat.min_eq_left hki] at this
      have hc8 := copied_ok (c := i) h7 hr8 (by simp; omega)
      rw [List.length_replicate] at hc8
      refine hc8.mono ?_
      rintro v w8 ⟨b8, c8, rfl, h8⟩
      (simp -dsimp only [vc, Try.ty, Try.en, ↓reduceIte, Nat.reduceLT, Nat.reduceEqDiff, Nat.reduceSub, Nat.reduceAdd, Nat.reduceMul, Int.natCast_one, Int.natCast_zero, Int.reduceEq, Int.reduceLT, Int.reduceLE, Int.reduceAdd, Int.reduceSub, decide_false, decide_true, Int.reduceToNat, sh_zero, Bool.not_true, Bool.not_false, Option.isNone_some, Option.isNone_none, Option.isSome_some, Option.isSome_none]; try with_reducible intro (base : Nat → Value))
      have hf9 := feedA_ok (c := c8) (all := stepB [] (la ++ [10])) (l := List.replicate k 120) (Ctx.ord [2] h8) Rdb.buf (by simpa using buf_le h8) (by simp; omega)
      rw [List.length_replicate] at hf9
      refine hf9.mono ?_
      rintro v w9 ⟨l9, c9, rfl, hl9, h9⟩
      obtain ⟨p2, p2'⟩ := plain2 _ k p1 (by omega)
      (simp -dsimp only [vc, Try.ty, Try.en, ↓reduceIte, Nat.reduceLT, Nat.reduceEqDiff, Nat.reduceSub, Nat.reduceAdd, Nat.reduceMul, Int.natCast_one, Int.natCast_zero, Int.reduceEq, Int.reduceLT, Int.reduceLE, Int.reduceAdd, Int.reduceSub, decide_false, decide_true, Int.reduceToNat, sh_zero, Bool.not_true, Bool.not_false, Option.isNone_some, Option.isNone_none, Option.isSome_some, Option.isSome_none, fedV, p2, p2', Bool.false_eq_true, List.length_nil]; try with_reducible intro (base : Nat → Value))
      refine RunV.slice 5 1 k i _ none .i64 .i64 (by kernel_rfl) (by kernel_rfl) (by decide) hki (Nat.le_refl _) (.inl rfl) (.inr ⟨rfl, rfl⟩) ?_
      (simp -dsimp only [vc, Try.ty, Try.en, ↓reduceIte, Nat.reduceLT, Nat.reduceEqDiff, Nat.reduceSub, Nat.reduceAdd, Nat.reduceMul, Int.natCast_one, Int.natCast_zero, Int.reduceEq, Int.reduceLT, Int.reduceLE, Int.reduceAdd, Int.reduceSub, decide_false, decide_true, Int.reduceToNat, sh_zero, Bool.not_true, Bool.not_false, Option.isNone_some, Option.isNone_none, Option.isSome_some, Option.isSome_none]; try with_reducible intro (base : Nat → Value))
      have hr10 : Rdb (frA f (stepB (stepB [] (la ++ [10])) (List.replicate k 120)) :: buf 5 1 b8 k c8 ((List.replicate k 120).map bv) :: buf 5 1 (some ⟨s6, 0, none⟩) i i ((List.replicate i 120).map bv) :: O) (rows l9 (newL (stepB [] (la ++ [10])) (List.replicate k 120)) :: L) (sa (some ⟨s6, 0, none⟩) k i 1) ((List.replicate (i - k) 120).map bv) := by
        have := (((Rdb.buf (T := 5) (size := 1) (n := i) (c := i) (O := O) (L := rows l9 (newL (stepB [] (la ++ [10])) (List.replicate k 120)) :: L) (a := some ⟨s6, 0, none⟩) (vs := (List.replicate i 120).map bv)).cons (buf 5 1 b8 k c8 ((List.replicate k 120).map bv))).cons (frA f (stepB (stepB [] (la ++ [10])) (List.replicate k 120)))).sa' (l := k) (c := i) (sz := 1) (by simp)
        rwa [Nat.mul_one, ← List.map_drop, List.drop_replicate] at this
      have hc10 := copied_ok (c := i - k) h9 hr10 (by simp; omega)
      rw [List.length_replicate] at hc10
      refine hc10.mono ?_
      rintro v w10 ⟨b10, c10, rfl, h10⟩
      (simp -dsimp only [vc, Try.ty, Try.en, ↓reduceIte, Nat.reduceLT, Nat.reduceEqDiff, Nat.reduceSub, Nat.reduceAdd, Nat.reduceMul, Int.natCast_one, Int.natCast_zero, Int.reduceEq, Int.reduceLT, Int.reduceLE, Int.reduceAdd, Int.reduceSub, decide_false, decide_true, Int.reduceToNat, sh_zero, Bool.not_true, Bool.not_false, Option.isNone_some, Option.isNone_none, Option.isSome_some, Option.isSome_none]; try with_reducible intro (base : Nat → Value))
      refine RunV.lit1 5 (.int .u8 0) h10 (by kernel_rfl) (by kernel_rfl) (by kernel_rfl) rfl rfl fun s11 w11 h11 => ?_
      (simp -dsimp only [vc, Try.ty, Try.en, ↓reduceIte, Nat.reduceLT, Nat.reduceEqDiff, Nat.reduceSub, Nat.reduceAdd, Nat.reduceMul, Int.natCast_one, Int.natCast_zero, Int.reduceEq, Int.reduceLT, Int.reduceLE, Int.reduceAdd, Int.reduceSub, decide_false, decide_true, Int.reduceToNat, sh_zero, Bool.not_true, Bool.not_false, Option.isNone_some, Option.isNone_none, Option.isSome_some, Option.isSome_none]; try with_reducible intro (base : Nat → Value))
      refine RunV.append (.int .u8 0) h11.swap (h11.rd_own) (by simp) (by simp [Value.oneCell']) (by kernel_rfl) (by kernel_rfl) (by decide) (by kernel_rfl) rfl ?_ ?_ fun a12 c12 w12 h12 => ?_
      · rw [show tby Try.prog 5 = 1 from (by kernel_rfl)]; omega
      · simp only [maxLen]; omega
      (simp -dsimp only [vc, Try.ty, Try.en, ↓reduceIte, Nat.reduceLT, Nat.reduceEqDiff, Nat.reduceSub, Nat.reduceAdd, Nat.reduceMul, Int.natCast_one, Int.natCast_zero, Int.reduceEq, Int.reduceLT, Int.reduceLE, Int.reduceAdd, Int.reduceSub, decide_false, decide_true, Int.reduceToNat, sh_zero, Bool.not_true, Bool.not_false, Option.isNone_some, Option.isNone_none, Option.isSome_some, Option.isSome_none]; try with_reducible intro (base : Nat → Value))
      have el : (List.replicate (i - k) (120 : UInt8) ++ [10]).length = i - k + 1 := by simp
      rw [show (List.replicate (i - k) 120).map bv ++ [Value.int .u8 10] = (List.replicate (i - k) (120 : UInt8) ++ [10]).map bv by rw [List.map_append]; rfl] at h12
      have hf13 := feedA_ok (c := c12) (all := stepB (stepB [] (la ++ [10])) (List.replicate k 120)) (l := List.replicate (i - k) 120 ++ [10]) (Ctx.ord [2] h12) Rdb.buf (by rw [el]; exact buf_le h12) (by rw [el]; omega)
      rw [el] at hf13
      refine hf13.mono ?_
      rintro v w13 ⟨l13, c13, rfl, hl13, h13⟩
      (simp -dsimp only [vc, Try.ty, Try.en, ↓reduceIte, Nat.reduceLT, Nat.reduceEqDiff, Nat.reduceSub, Nat.reduceAdd, Nat.reduceMul, Int.natCast_one, Int.natCast_zero, Int.reduceEq, Int.reduceLT, Int.reduceLE, Int.reduceAdd, Int.reduceSub, decide_false, decide_true, Int.reduceToNat, sh_zero, Bool.not_true, Bool.not_false, Option.isNone_some, Option.isNone_none, Option.isSome_some, Option.isSome_none, fedV]; try with_reducible intro (base : Nat → Value))
      refine CondP.split (fun hz => ?_) (fun _ => ?_)
      · have := of_decide_eq_true hz
        omega
      (simp -dsimp only [vc, Try.ty, Try.en, ↓reduceIte, Nat.reduceLT, Nat.reduceEqDiff, Nat.reduceSub, Nat.reduceAdd, Nat.reduceMul, Int.natCast_one, Int.natCast_zero, Int.reduceEq, Int.reduceLT, Int.reduceLE, Int.reduceAdd, Int.reduceSub, decide_false, decide_true, Int.reduceToNat, sh_zero, Bool.not_true, Bool.not_false, Option.isNone_some, Option.isNone_none, Option.isSome_some, Option.isSome_none]; try with_reducible intro (base : Nat → Value))
      have h14 : Ctx w13 (frA f (stepB (stepB (stepB [] (la ++ [10])) (List.replicate k 120)) (List.replicate (i - k) 120 ++ [10])) :: O) (rows l13 (newL (stepB (stepB [] (la ++ [10])) (List.replicate k 120)) (List.replicate (i - k) 120 ++ [10])) :: L) :=
        ((((h13.del 1).del 1).del 1).del 1).weak fun φ hφ => by simp only [List.mem_cons] at hφ ⊢; rcases hφ with rfl | hφ <;> simp [*]
      refine CondP.split (fun hm => ?_) (fun hm => ?_)
      · have hm : more ≤ 0 := of_decide_eq_true hm
        obtain ⟨p3, p3'⟩ := plain3 _ k (i - k) p2 (by omega)
        rw [show k + (i - k) = i by omega] at p3'
        rw [p3'] at h14
        obtain ⟨gs, hg, h15⟩ := h14.open_rows mem0
        match gs, hg with
        | [g], _ =>
        (simp -dsimp only [vc, Try.ty, Try.en, ↓reduceIte, Nat.reduceLT, Nat.reduceEqDiff, Nat.reduceSub, Nat.reduceAdd, Nat.reduceMul, Int.natCast_one, Int.natCast_zero, Int.reduceEq, Int.reduceLT, Int.reduceLE, Int.reduceAdd, Int.reduceSub, decide_false, decide_true, Int.reduceToNat, sh_zero, Bool.not_true, Bool.not_false, Option.isNone_some, Option.isNone_none, Option.isSome_some, Option.isSome_none, p3, p3', Bool.false_eq_true, List.length_cons, List.length_nil]; try with_reducible intro (base : Nat → Value))
        refine ⟨(h15.rd mem0).some (by simp), ?_⟩
        refine RunV.load0 (v := hdr g (List.replicate i 120)) (h15.rd mem0) rfl (by kernel_rfl) ?_
        (simp -dsimp only [vc, Try.ty, Try.en, ↓reduceIte, Nat.reduceLT, Nat.reduceEqDiff, Nat.reduceSub, Nat.reduceAdd, Nat.reduceMul, Int.natCast_one, Int.natCast_zero, Int.reduceEq, Int.reduceLT, Int.reduceLE, Int.reduceAdd, Int.reduceSub, decide_false, decide_true, Int.reduceToNat, sh_zero, Bool.not_true, Bool.not_false, Option.isNone_some, Option.isNone_none, Option.isSome_some, Option.isSome_none, hdr, List.length_replicate, eq_self]; try with_reducible intro (base : Nat → Value))
        refine (held_ok h15).mono ?_
        rintro v w16 ⟨rfl, h16⟩
        (simp -dsimp only [vc, Try.ty, Try.en, ↓reduceIte, Nat.reduceLT, Nat.reduceEqDiff, Nat.reduceSub, Nat.reduceAdd, Nat.reduceMul, Int.natCast_one, Int.natCast_zero, Int.reduceEq, Int.reduceLT, Int.reduceLE, Int.reduceAdd, Int.reduceSub, decide_false, decide_true, Int.reduceToNat, sh_zero, Bool.not_true, Bool.not_false, Option.isNone_some, Option.isNone_none, Option.isSome_some, Option.isSome_none, p3, List.length_nil, eq_self]; try with_reducible intro (base : Nat → Value))
        refine (over_ok h16).mono ?_
        rintro v w17 ⟨rfl, h17⟩
        (simp -dsimp only [vc, Try.ty, Try.en, ↓reduceIte, Nat.reduceLT, Nat.reduceEqDiff, Nat.reduceSub, Nat.reduceAdd, Nat.reduceMul, Int.natCast_one, Int.natCast_zero, Int.reduceEq, Int.reduceLT, Int.reduceLE, Int.reduceAdd, Int.reduceSub, decide_false, decide_true, Int.reduceToNat, sh_zero, Bool.not_true, Bool.not_false, Option.isNone_some, Option.isNone_none, Option.isSome_some, Option.isSome_none, p3]; try with_reducible intro (base : Nat → Value))
        refine (works_ok h17).mono ?_
        rintro v w18 ⟨rfl, h18⟩
        (simp -dsimp only [vc, Try.ty, Try.en, ↓reduceIte, Nat.reduceLT, Nat.reduceEqDiff, Nat.reduceSub, Nat.reduceAdd, Nat.reduceMul, Int.natCast_one, Int.natCast_zero, Int.reduceEq, Int.reduceLT, Int.reduceLE, Int.reduceAdd, Int.reduceSub, decide_false, decide_true, Int.reduceToNat, sh_zero, Bool.not_true, Bool.not_false, Option.isNone_some, Option.isNone_none, Option.isSome_some, Option.isSome_none]; try with_reducible intro (base : Nat → Value))
        exact ResP.one rfl (by decide) ⟨rfl, _, h18.drop, fun φ hφ => by simp [hφ]⟩
      · have hm : ¬ more ≤ 0 := by simpa using hm
        obtain ⟨p3, p3'⟩ := plain4 _ k (i - k) p2 (by omega) (by omega)
        (simp -dsimp only [vc, Try.ty, Try.en, ↓reduceIte, Nat.reduceLT, Nat.reduceEqDiff, Nat.reduceSub, Nat.reduceAdd, Nat.reduceMul, Int.natCast_one, Int.natCast_zero, Int.reduceEq, Int.reduceLT, Int.reduceLE, Int.reduceAdd, Int.reduceSub, decide_false, decide_true, Int.reduceToNat, sh_zero, Bool.not_true, Bool.not_false, Option.isNone_some, Option.isNone_none, Option.isSome_some, Option.isSome_none, p3, p3', List.length_nil]; try with_reducible intro (base : Nat → Value))
        have ho : (feed [] (stepB (stepB (stepB [] (la ++ [10])) (List.replicate k 120)) (List.replicate (i - k) 120 ++ [10]))).2.2 = true := by rw [p3]
        refine (feedA_ok h14 (hb.more fun φ hφ => by simp [hφ]) hcb (by omega)).mono ?_
        rintro v w15 ⟨l15, c15, rfl, hl15, h15⟩
        rw [step_over _ ho] at h15
        (simp -dsimp only [vc, Try.ty, Try.en, ↓reduceIte, Nat.reduceLT, Nat.reduceEqDiff, Nat.reduceSub, Nat.reduceAdd, Nat.reduceMul, Int.natCast_one, Int.natCast_zero, Int.reduceEq, Int.reduceLT, Int.reduceLE, Int.reduceAdd, Int.reduceSub, decide_false, decide_true, Int.reduceToNat, sh_zero, Bool.not_true, Bool.not_false, Option.isNone_some, Option.isNone_none, Option.isSome_some, Option.isSome_none, fedV, step_over _ ho, new_over _ ho, p3, p3', List.length_nil]; try with_reducible intro (base : Nat → Value))
        refine (over_ok h15).mono ?_
        rintro v w16 ⟨rfl, h16⟩
        (simp -dsimp only [vc, Try.ty, Try.en, ↓reduceIte, Nat.reduceLT, Nat.reduceEqDiff, Nat.reduceSub, Nat.reduceAdd, Nat.reduceMul, Int.natCast_one, Int.natCast_zero, Int.reduceEq, Int.reduceLT, Int.reduceLE, Int.reduceAdd, Int.reduceSub, decide_false, decide_true, Int.reduceToNat, sh_zero, Bool.not_true, Bool.not_false, Option.isNone_some, Option.isNone_none, Option.isSome_some, Option.isSome_none, p3]; try with_reducible intro (base : Nat → Value))
        refine (held_ok h16).mono ?_
        rintro v w17 ⟨rfl, h17⟩
        (simp -dsimp only [vc, Try.ty, Try.en, ↓reduceIte, Nat.reduceLT, Nat.reduceEqDiff, Nat.reduceSub, Nat.reduceAdd, Nat.reduceMul, Int.natCast_one, Int.natCast_zero, Int.reduceEq, Int.reduceLT, Int.reduceLE, Int.reduceAdd, Int.reduceSub, decide_false, decide_true, Int.reduceToNat, sh_zero, Bool.not_true, Bool.not_false, Option.isNone_some, Option.isNone_none, Option.isSome_some, Option.isSome_none, p3, List.length_nil]; try with_reducible intro (base : Nat → Value))
        have hk6 : ((65536 : Int) < (k : Int)) = False := eq_false (by omega)
        (simp -dsimp only [vc, Try.ty, Try.en, ↓reduceIte, Nat.reduceLT, Nat.reduceEqDiff, Nat.reduceSub, Nat.reduceAdd, Nat.reduceMul, Int.natCast_one, Int.natCast_zero, Int.reduceEq, Int.reduceLT, Int.reduceLE, Int.reduceAdd, Int.reduceSub, decide_false, decide_true, Int.reduceToNat, sh_zero, Bool.not_true, Bool.not_false, Option.isNone_some, Option.isNone_none, Option.isSome_some, Option.isSome_none, hk6, beq_self_eq_true]; try with_reducible intro (base : Nat → Value))
        refine (works_ok h17).mono ?_
        rintro v w18 ⟨rfl, h18⟩
        (simp -dsimp only [vc, Try.ty, Try.en, ↓reduceIte, Nat.reduceLT, Nat.reduceEqDiff, Nat.reduceSub, Nat.reduceAdd, Nat.reduceMul, Int.natCast_one, Int.natCast_zero, Int.reduceEq, Int.reduceLT, Int.reduceLE, Int.reduceAdd, Int.reduceSub, decide_false, decide_true, Int.reduceToNat, sh_zero, Bool.not_true, Bool.not_false, Option.isNone_some, Option.isNone_none, Option.isSome_some, Option.isSome_none, hk6, beq_self_eq_true]; try with_reducible intro (base : Nat → Value))
        exact ResP.one rfl (by decide) ⟨rfl, _, h18.drop, fun φ hφ => by simp [hφ]⟩

theorem own : ownKnob Try.prog.godebug = none := by kernel_rfl
theorem laidOut : laidOutB Try.prog = true := by kernel_rfl

theorem contract (H : Type) (enc : TypeId × Value → H) (W : World) (base : Nat) (args : Array Value) (ds gs : List (DataW H)) (before : List MemPlace)
    (hval : ∀ (j : Nat) t v, Try.f5.params[j]? = some t → args[j]? = some v → Value.okWide Try.prog W .any base t v)
    (hW : DataW.Whole enc Try.prog Try.f5.params.toList Rows.frameOverSpec.vars false W args.toList ds gs before) :
    Calls Try.prog 5 args W fun e W' => ∃ v, e = .returned v ∧ Rows.frameOverSpec.post enc Try.prog Try.f5 false true false false W args v W' := by
  have hW' := hW
  obtain ⟨p, q, hA, hV, rfl, hfz, hnd⟩ := hW
  rw [Try.params5] at hA hval
  obtain ⟨v0, vs0, d0, ds0, p0, q0, hargs, rfl, rfl, h0, r0⟩ := trodAll_cons hA
  obtain ⟨v1, vs1, d1, ds1, p1, q1, rfl, rfl, rfl, h1, r1⟩ := trodAll_cons r0
  obtain ⟨v2, vs2, d2, ds2, p2, q2, rfl, rfl, rfl, h2, r2⟩ := trodAll_cons r1
  obtain ⟨v3, vs3, d3, ds3, p3, q3, rfl, rfl, rfl, h3, r3⟩ := trodAll_cons r2
  obtain ⟨rfl, rfl, rfl⟩ := trodAll_nil r3
  obtain rfl : args = #[v0, v1, v2, v3] := by cases args; simp_all
  obtain ⟨rfl, rfl⟩ := trodVars_none hV
  obtain ⟨a, ca, la, rfl, hca, _, hra, _⟩ := arg_bytes Try.underlying27 Try.underlying5 (by kernel_rfl) (hval 0 _ v0 rfl rfl) h0
  obtain ⟨more, rfl, rfl, rfl, w1⟩ := open_int Try.underlying45 (hval 1 _ v1 rfl rfl) h1
  obtain ⟨b, cb, lb, rfl, hcb, _, hrb, _⟩ := arg_bytes Try.underlying27 Try.underlying5 (by kernel_rfl) (hval 2 _ v2 rfl rfl) h2
  obtain ⟨part, rfl, rfl, rfl, w3⟩ := open_int Try.underlying31 (hval 3 _ v3 rfl rfl) h3
  have hm : -128 ≤ more ∧ more ≤ 127 := by simpa [Lit.wf, IntKind.min, IntKind.max, IntKind.signed, IntKind.bits] using w1
  have hp : 0 ≤ part ∧ part ≤ 65535 := by simpa [Lit.wf, IntKind.min, IntKind.max, IntKind.signed, IntKind.bits] using w3
  obtain ⟨pn, rfl⟩ : ∃ pn : Nat, part = (pn : Int) := ⟨part.toNat, by omega⟩
  refine law_calls 4 laidOut (by kernel_rfl) (by kernel_rfl) Try.underlying4 rfl rfl hW' ?_
  have hc := ((Ctx.begin W).arr_of mem0 hra).arr_of mem1 hrb
  refine (walk hc (.of_arr mem1) (.of_arr mem0) hca hcb hm (by omega)).mono ?_
  rintro v w' ⟨rfl, L', h2, hL⟩
  exact ⟨rfl, _, _, h2, hL _ mem2⟩

set_option maxRecDepth 100000 in
theorem lifted (os : Os) (started : os.Started) (H : Type) (enc : TypeId × Value → H) :
    ReturnsInHanded {} Try.checked os 5 .any (Rows.frameOverSpec.pre6 enc Try.prog Try.f5 Rows.frameOverRow.domain false) (Rows.frameOverSpec.post enc Try.prog Try.f5 false true false false) := by
  refine returnsInHanded_of_change (C := Try.checked) (s := Rows.frameOverSpec) own started (by kernel_rfl) Try.func5
    (ChangeSpec.witness6 (enc := enc) (C := Try.checked) (s := Rows.frameOverSpec) false ⟨#[], #[.slice none 0 0, .int .i8 0, .slice none 0 0, .int .u16 0], []⟩ 8 (by kernel_rfl) (by kernel_rfl) (by kernel_rfl) (by kernel_rfl)) ?_
  intro W base args ds gs before hval hW _ _
  exact contract H enc W base args ds gs before hval hW

theorem proved : Rows.FrameOverSaid :=
  OpenClaim.holds_of_wide 5 Try.f5 rfl rfl rfl rfl rfl rfl rfl ⟨rfl, rfl, rfl, rfl, rfl⟩ rfl rfl rfl rfl rfl (by kernel_rfl) Try.func5 (by kernel_rfl)
    (of_decide_eq_true (by kernel_rfl)) (by unfold Func.isWrapper; first | (rw [if_pos (by decide +kernel)]; kernel_rfl) | (rw [if_neg (by decide +kernel)]; exact ⟨rfl, rfl⟩))
    (fun os started H enc _ => lifted os started H enc)
end Go.Proofs.Ytloeiefijmbkiaa.overf
