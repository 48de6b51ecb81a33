/-
  'scantlinglaw14.ForestBest' returns true whatever comes, and leaves what came as it was; its row's listed variable is tied to the program's text. No condition.
-/
import Derived.Test.YtfpjalgfnjjcmaaGreatDoorQh4
import Derived.Lib.LazyBuf
import Derived.Test.YtfpjalgfnjjcmaaGreatDoorRows
import Derived.LaidMore
import Derived.OpenShut
import Derived.Stop.Joined
import Derived.Test.YtfpjalgfnjjcmaaGreatDoorCards
import Derived.Test.YtfpjalgfnjjcmaaGreatDoorTie
import Derived.SevenTiedAt
import Derived.ChangeCalls
set_option linter.unusedSimpArgs false
set_option linter.unusedVariables false
set_option linter.unusedSectionVars false
set_option maxRecDepth 8000
set_option maxHeartbeats 4000000
namespace Go.Proofs.YtfpjalgfnjjcmaaGreatDoor
open Go.E Go.Proofs.YtfpjalgfnjjcmaaGreatDoor.Tryz Go.Proofs.Tryz
def dq (x y N k : Nat) : Nat := x / (y * 2 ^ (N + 1 - k))
def dr (x y N k : Nat) : Nat := x % (y * 2 ^ (N + 1 - k))
def dp (y N k : Nat) : Nat := y * 2 ^ (N + 1 - k) / 2
theorem pdiv_ok {T : Tbl} {x y : Nat} (hx : x < 2 ^ 256) (hy : y < 2 ^ 256) (h0 : 0 < y) : CallA prog G 102 [.ag (Bg x), .ag (Bg y)] T fun v T' es => v = .tu [.ag (Bg (x / y)), .ag (Bg (x % y)), .p (.int .i64 0)] /\ T' = T /\ es = [] := by
 refine CallA.wfs fun wf => ?_
 have wt := wf.t
 have ez : [oQ, oQ, oQ, oQ] = Bg 0 := rfl
 have hne : (y = 0) = False := by simp; omega
 have hbx : blen x <= 256 := blen_le hx
 have hby : blen y <= 256 := blen_le hy
 have g0 := fun l => gn0 T (.cells 47 (Bg x)) l
 have g1 := fun a l => gn1 T a (.cells 47 (Bg y)) l
 obtain ⟨n, hn⟩ : ∃ n : Int, n = (blen x : Int) - (blen y : Int) := ⟨_, rfl⟩
 have hnw : IntKind.i64.wrap n = n := IntWalk.i64_in _ (by omega)
 refine CallA.eV 27 func102 ntmps102 results102 ?_
 refine sqcx ?_
 simp -dsimp +decide (disch := omega) only [vt2, v1q, ↓reduceIte, Nat.reduceSub, Nat.reduceAdd, Nat.reduceMul, Nat.reduceLT, Int.reduceAdd, Int.reduceSub, Int.reduceToNat, v2q, vbg, ez, eqB hy (show 0 < 2 ^ 256 by decide), hne, g0, g1]
 refine SemA.draw (fun i => true) [(0, true), (2, true), (1, false), (3, false), (4, true), (5, true)] mixed (by kernel_rfl) ?_
 refine tqcz (cj4 @vbg @g0 @g1 @kallT) ?_
 refine (pbits_ok hx).det' ?_
 refine tqcz (cj4 @vbg @g0 @g1 @kallT) ?_
 refine (pbits_ok hy).det' ?_
 simp -dsimp +decide (disch := omega) only [vt2, v1q, ↓reduceIte, Nat.reduceSub, Nat.reduceAdd, Nat.reduceMul, Nat.reduceLT, Int.reduceAdd, Int.reduceSub, Int.reduceToNat, v2q, vbg, g0, g1, kallT, <- hn, hnw]
 by_cases hneg : n < 0
 . have hxy : x < y := by
    have h1 := blen_lt x
    have h2 := blen_ge (x := y) (by omega)
    exact Nat.lt_of_lt_of_le h1 (Nat.le_trans (Nat.pow_le_pow_right (by decide) (by omega)) h2)
   refine (pup_neg (by omega)).det' ?_
   have hn1w : IntKind.i64.wrap (n + 1) = n + 1 := IntWalk.i64_in _ (by omega)
   have i1 := eq_false (show ¬ (0 : Int) < n + 1 by omega)
   refine tqcz (cj5 @vbg @g0 @g1 @kallT @hn1w) ?_
   refine SemA.loopK (T.length + 5) (fun _ : Unit => [(2, .ptr T.length 0), (4, .ptr (T.length + 2) 0), (5, .ptr (T.length + 3) 0), (25, wint (n + 1)), (26, wint 0)]) (fun _ => T ++ [.cells 47 (Bg x), .cells 47 (Bg y), .cells 47 (Bg 0), .cells 47 (Bg 0), .cells 47 (Bg y)]) (fun _ => True) (fun _ => 0) () [] 0 (fun _ : Unit => [(2, .ptr T.length 0), (4, .ptr (T.length + 2) 0), (5, .ptr (T.length + 3) 0)]) (fun _ => T ++ [.cells 47 (Bg x), .cells 47 (Bg y), .cells 47 (Bg 0), .cells 47 (Bg 0), .cells 47 (Bg y)]) (fun _ => True) (by omega) trivial (by (simp -dsimp +decide (disch := omega) only [vt2, v1q, ↓reduceIte, Nat.reduceSub, Nat.reduceAdd, Nat.reduceMul, Nat.reduceLT, Int.reduceAdd, Int.reduceSub, Int.reduceToNat, v4q]); first | rfl | exact ⟨rfl, rfl, rfl, rfl, rfl, rfl⟩ | done) rfl (by simp) ?_ ?_
   . rintro _ g -
     refine SemA.o ?_
     refine tqcz (cj4 @i1 @wt @vbg @ez) ?_
     exact ⟨(), trivial⟩
   . rintro _ g tmp -
     refine tqcz @vbg ?_
     refine SemA.draw (fun i => decide (i < T.length + 2)) [(1, true), (0, false), (2, false), (3, false), (4, true)] mixed (by kernel_rfl) ?_
     refine tqcz (cj4 @vbg @vres @vone @keep_app) ?_
     exact ⟨.inl (by simp), .inl (by simp), Vw.cut ⟨by simp only [AV.wo, AV.woL, AV.woL_eq, Bg_wo, Nat.div_eq_of_lt hxy, Nat.mod_eq_of_lt hxy], rfl, rfl⟩⟩
 obtain ⟨N, rfl⟩ : ∃ N : Nat, n = (N : Int) := ⟨n.toNat, by omega⟩
 have hN : blen x = N + blen y := by omega
 have hpN : y * 2 ^ N < 2 ^ 256 := by
  have h1 := Nat.mul_lt_mul_of_pos_right (blen_lt y) (Nat.two_pow_pos N)
  rw [<- Nat.pow_add] at h1
  exact Nat.lt_of_lt_of_le h1 (Nat.pow_le_pow_right (by decide) (by omega))
 have hx0 : x < y * 2 ^ (N + 1) := by
  have h1 := blen_lt x
  have h2 := Nat.mul_le_mul_right (2 ^ (N + 1)) (blen_ge (x := y) (by omega))
  rw [<- Nat.pow_add] at h2
  have hy1 : 1 <= blen y := by
   have := blen_lt y
   rcases Nat.eq_zero_or_pos (blen y) with h | h
   . rw [h] at this; omega
   . exact h
  exact Nat.lt_of_lt_of_le h1 (Nat.le_trans (Nat.pow_le_pow_right (by decide) (by omega)) h2)
 refine (pup_ok hy (by omega)).det' ?_
 have hn1w : IntKind.i64.wrap ((N : Int) + 1) = (N : Int) + 1 := IntWalk.i64_in _ (by omega)
 rw [Nat.mod_eq_of_lt hpN]
 refine tqcz (cj5 @vbg @g0 @g1 @kallT @hn1w) ?_
 refine SemA.loopK (T.length + 5) (fun k : Nat => [(2, .ptr T.length 0), (4, .ptr (T.length + 2) 0), (5, .ptr (T.length + 3) 0), (8, .ptr (T.length + 4) 0), (25, wint ((N : Int) + 1)), (26, wint (k : Int))]) (fun k => T ++ [.cells 47 (Bg (dr x y N k)), .cells 47 (Bg y), .cells 47 (Bg (dq x y N k)), .cells 47 (Bg 0), .cells 47 (Bg (dp y N k))]) (fun k => k <= N + 1) (fun k => N + 1 - k) 0 [] 0 (fun _ : Unit => [(2, .ptr T.length 0), (4, .ptr (T.length + 2) 0), (5, .ptr (T.length + 3) 0)]) (fun _ => T ++ [.cells 47 (Bg (x % y)), .cells 47 (Bg y), .cells 47 (Bg (x / y)), .cells 47 (Bg 0), .cells 47 (Bg (dp y N (N + 1)))]) (fun _ => True) (by omega) (by omega) (by (simp -dsimp +decide (disch := omega) only [vt2, v1q, ↓reduceIte, Nat.reduceSub, Nat.reduceAdd, Nat.reduceMul, Nat.reduceLT, Int.reduceAdd, Int.reduceSub, Int.reduceToNat, v4q]); first | rfl | exact ⟨rfl, rfl, rfl, rfl, rfl, rfl, rfl⟩ | done) ?_ (by simp) ?_ ?_
 . rw [ez, wrA_all (by rw [Bg_len, Bg_len]), dr, dq, dp, Nat.sub_zero, Nat.mod_eq_of_lt hx0, Nat.div_eq_of_lt hx0, Nat.pow_succ, <- Nat.mul_assoc, Nat.mul_div_cancel _ (by decide)]
 . rintro k g hk
   refine SemA.o ?_
   by_cases hkn : k = N + 1
   . have i1 := eq_false (show ¬ (k : Int) < (N : Int) + 1 by omega)
     have e1 : dr x y N k = x % y := by rw [dr, hkn, Nat.sub_self, Nat.pow_zero, Nat.mul_one]
     have e2 : dq x y N k = x / y := by rw [dq, hkn, Nat.sub_self, Nat.pow_zero, Nat.mul_one]
     rw [e1, e2, hkn]
     rw [hkn] at i1
     refine tqcz (cj4 @i1 @wt @vbg @ez) ?_
     exact ⟨(), trivial⟩
   . have i1 := eq_true (show (k : Int) < (N : Int) + 1 by omega)
     obtain ⟨M, hM⟩ : ∃ M, M = y * 2 ^ (N - k) := ⟨_, rfl⟩
     have hM0 : 0 < M := by rw [hM]; exact Nat.mul_pos h0 (Nat.two_pow_pos _)
     have hM2 : y * 2 ^ (N + 1 - k) = 2 * M := by rw [hM, show N + 1 - k = N - k + 1 by omega, Nat.pow_succ]; rw [<- Nat.mul_assoc, Nat.mul_comm]
     have hMl : M < 2 ^ 256 := Nat.lt_of_le_of_lt (by rw [hM]; exact Nat.mul_le_mul_left _ (Nat.pow_le_pow_right (by decide) (by omega))) hpN
     obtain ⟨d1, d2⟩ := halfdiv x M hM0
     have er : dr x y N k = x % (2 * M) := by rw [dr, hM2]
     have eq : dq x y N k = x / (2 * M) := by rw [dq, hM2]
     have ep : dp y N k = M := by rw [dp, hM2, Nat.mul_div_cancel_left _ (by decide)]
     have er' : dr x y N (k + 1) = x % M := by rw [dr, show N + 1 - (k + 1) = N - k by omega, <- hM]
     have eq' : dq x y N (k + 1) = x / M := by rw [dq, show N + 1 - (k + 1) = N - k by omega, <- hM]
     have ep' : dp y N (k + 1) = M / 2 ^ 1 := by rw [dp, show N + 1 - (k + 1) = N - k by omega, <- hM]
     obtain ⟨R, hR⟩ : ∃ R, R = x % (2 * M) := ⟨_, rfl⟩
     obtain ⟨Q, hQ⟩ : ∃ Q, Q = x / (2 * M) := ⟨_, rfl⟩
     have hRl : R < 2 ^ 256 := Nat.lt_of_le_of_lt (by rw [hR]; exact Nat.mod_le _ _) hx
     have hQl : Q < 2 ^ 256 := Nat.lt_of_le_of_lt (by rw [hQ]; exact Nat.div_le_self _ _) hx
     have hxM : x / M < 2 ^ 256 := Nat.lt_of_le_of_lt (Nat.div_le_self _ _) hx
     rw [er, eq, ep, <- hR, <- hQ]
     rw [<- hR, <- hQ] at d1
     rw [<- hR] at d2
     have hk1w : IntKind.i64.wrap ((k : Int) + 1) = ((k + 1 : Nat) : Int) := IntWalk.i64_in _ (by omega)
     have hQ2 : Q * 2 ^ 1 % 2 ^ 256 = 2 * Q := by
      rw [Nat.pow_one, Nat.mul_comm, Nat.mod_eq_of_lt]
      split at d1 <;> omega
     refine tqcz (cj4 @i1 @wt @vbg @ez) ?_
     have hup := fun (T : Tbl) => pup_ok (T := T) hQl (n := 1) (by omega)
     rw [hQ2] at hup
     refine (hup _).det' ?_
     refine tqcz (cj4 @i1 @wt @vbg @ez) ?_
     refine (psub_ok hRl hMl).det' ?_
     by_cases hc : R < M
     . rw [if_neg (by omega)] at d1 d2
       have i2 := decide_eq_true hc
       refine tqcz (cj5 @i2 @wt @vbg @ez @bb2) ?_
       refine (pdown_ok hMl (n := 1) (by omega)).det' ?_
       refine tqcz (cj6 @i2 @wt @vbg @ez @bb2 @hk1w) ?_
       exact ⟨k + 1, ⟨by omega, by omega⟩, rfl, by simp only [er', eq', ep', d1, d2, Nat.add_zero, Nat.sub_zero]⟩
     . rw [if_pos (by omega)] at d1 d2
       have i2 := decide_eq_false hc
       have hs : (R + 2 ^ 256 - M) % 2 ^ 256 = R - M := by
        rw [show R + 2 ^ 256 - M = R - M + 2 ^ 256 by omega, Nat.add_mod_right, Nat.mod_eq_of_lt (by omega)]
       have hinc := Bg_inc (z := 2 * Q) (by omega) (by omega)
       have hg := Bg_get (2 * Q) (j := 0) (by decide)
       rw [hs]
       refine tqcz (cj7 @i2 @wt @vbg @ez @bb2 @hg @hinc) ?_
       refine (pdown_ok hMl (n := 1) (by omega)).det' ?_
       refine tqcz (cj6 @i2 @wt @vbg @ez @bb2 @hk1w) ?_
       exact ⟨k + 1, ⟨by omega, by omega⟩, rfl, by simp only [er', eq', ep', d1, d2, Nat.add_zero, Nat.sub_zero]⟩
 . rintro _ g tmp -
   refine tqcz @vbg ?_
   refine SemA.draw (fun i => decide (i < T.length + 2)) [(1, true), (0, false), (2, false), (3, false), (4, true)] mixed (by kernel_rfl) ?_
   refine tqcz (cj4 @vbg @vres @vone @keep_app) ?_
   exact ⟨.inl (by simp), .inl (by simp), Vw.cut ⟨by simp only [AV.wo, AV.woL, AV.woL_eq, Bg_wo], rfl, rfl⟩⟩
def wkT (t : Nat) : Nat := if t = 0 then 2 ^ 256 - 1 else if t + 1 = 2 ^ 256 then 1 else 2 ^ 256 / (t + 1)
theorem wkT_lt (t : Nat) : wkT t < 2 ^ 256 := by
 unfold wkT
 split
 . decide
 . split
   . decide
   . exact Nat.div_lt_self (by decide) (by omega)
theorem wk_div {d : Nat} (h : 0 < d) (hd : d <= 2 ^ 256) : (2 ^ 256 - d) / d + 1 = 2 ^ 256 / d := by
 conv => rhs; rw [show (2 : Nat) ^ 256 = 2 ^ 256 - d + d by omega]
 rw [Nat.add_div_right _ h]
theorem un_xor64 {P : Program} {x : UInt64} {KA : AV -> Prop} {KV : Value -> Prop} (h : KA (.p (.int .u64 ((~~~x).toNat : Int)))) : unV .xor (.int .u64 (x.toNat : Int)) (pureK P KA) KV := by
 refine ⟨.int .u64 ((~~~x).toNat : Int), fun w _ => ?_, h⟩
 have e : IntKind.u64.wrap ((BitVec.ofInt IntKind.u64.bits IntKind.u64.max ^^^ BitVec.ofInt IntKind.u64.bits (x.toNat : Int)).toNat : Int) = ((~~~x).toNat : Int) := by
  rw [Go.E.u64_wrap, Go.E.u64_xor, Go.E.u64_self]
  have : UInt64.ofInt IntKind.u64.max ^^^ x = ~~~x := by
   rw [show UInt64.ofInt IntKind.u64.max = ~~~(0 : UInt64) from rfl]
   apply UInt64.eq_of_toBitVec_eq
   ext i
   simp
  rw [this]
 show (pure (Value.int .u64 (IntKind.u64.wrap ((BitVec.ofInt IntKind.u64.bits IntKind.u64.max ^^^ BitVec.ofInt IntKind.u64.bits (x.toNat : Int)).toNat : Int))) : Sem Value).run P w = _
 rw [e]; rfl
theorem work03_ok {T : Tbl} {t : Nat} (ht : t < 2 ^ 256) : CallA prog G 48 [.ag (Bg t)] T fun v T' es => v = .ag (Bg (wkT t)) /\ T' = T /\ es = [] := by
 refine CallA.wfs fun wf => ?_
 have wt := wf.t
 have ez : [oQ, oQ, oQ, oQ] = Bg 0 := rfl
 have e1 : (UInt64.ofInt 1).toNat = 1 := rfl
 have o1 : (1 : Nat) < 2 ^ 256 := by decide
 have o0 : (0 : Nat) < 2 ^ 256 := by decide
 have g2 := fun a b l => gn2 T a b (.cells 47 (Bg 0)) l
 refine CallA.eV 16 func48 ntmps48 results48 ?_
 refine sqcx ?_
 refine tqcz (cj2 @ez @vbg) ?_
 refine (of02_ok (n := 1)).det' ?_
 rw [show (1 : UInt64).toNat = 1 from rfl]
 by_cases c0 : t = 0
 . have i0 := eq_true c0
   simp -dsimp +decide (disch := omega) only [vt2, v1q, ↓reduceIte, Nat.reduceSub, Nat.reduceAdd, Nat.reduceMul, Nat.reduceLT, Int.reduceAdd, Int.reduceSub, Int.reduceToNat, v2q, ez, vbg, eqB ht o0, i0]
   refine (sub02_ok o0 o1).det' ?_
   refine tqcz (cj3 @ez @vbg @i0) ?_
   exact Vw.cut ⟨by rw [AV.wo, AV.woL_eq, Bg_wo, wkT, if_pos c0], rfl, rfl⟩
 have i0 := eq_false c0
 simp -dsimp +decide (disch := omega) only [vt2, v1q, ↓reduceIte, Nat.reduceSub, Nat.reduceAdd, Nat.reduceMul, Nat.reduceLT, Int.reduceAdd, Int.reduceSub, Int.reduceToNat, v2q, ez, vbg, eqB ht o0, i0]
 refine (add02_ok ht o1).det' ?_
 by_cases c1 : 2 ^ 256 <= t + 1
 . have i1 := decide_eq_true c1
   refine tqcz (cj3 @ez @vbg @i1) ?_
   exact Vw.cut ⟨by rw [AV.wo, AV.woL_eq, Bg_wo, wkT, if_neg c0, if_pos (by omega)], rfl, rfl⟩
 have i1 := decide_eq_false c1
 obtain ⟨d, hd⟩ : ∃ d, d = t + 1 := ⟨_, rfl⟩
 have hd2 : (t + 1) % 2 ^ 256 = d := by rw [hd, Nat.mod_eq_of_lt (by omega)]
 have hdl : d < 2 ^ 256 := by omega
 rw [hd2]
 refine tqcz (cj3 @ez @vbg @i1) ?_
 refine (sub02_ok o0 hdl).det' ?_
 have hs : (0 + 2 ^ 256 - d) % 2 ^ 256 = 2 ^ 256 - d := by rw [Nat.zero_add, Nat.mod_eq_of_lt (by omega)]
 rw [hs]
 refine tqcz (cj2 @ez @vbg) ?_
 refine (div02_ok (show 2 ^ 256 - d < 2 ^ 256 by omega) hdl (by omega)).det' ?_
 refine tqcz (cj2 @ez @vbg) ?_
 have hq : (2 ^ 256 - d) / d < 2 ^ 256 := Nat.lt_of_le_of_lt (Nat.div_le_self _ _) (by omega)
 refine (add02_ok hq o1).det' ?_
 have hw : ((2 ^ 256 - d) / d + 1) % 2 ^ 256 = wkT t := by
  have := wkT_lt t
  rw [wk_div (by omega) (by omega)]
  unfold wkT at this ⊢
  rw [if_neg c0, if_neg (by omega)] at this ⊢
  rw [hd, Nat.mod_eq_of_lt this]
 rw [hw]
 refine tqcz (cj2 @ez @vbg) ?_
 exact Vw.cut ⟨by rw [AV.wo, AV.woL_eq, Bg_wo], rfl, rfl⟩
theorem ptwork_ok {T : Tbl} {t : Nat} (ht : t < 2 ^ 256) : CallA prog G 64 [.ag (Bg t)] T fun v T' es => v = .ag (Bg (wkT t)) /\ T' = T /\ es = [] := by
 refine CallA.wfs fun wf => ?_
 have wt := wf.t
 have ez : [oQ, oQ, oQ, oQ] = Bg 0 := rfl
 have o1 : (1 : Nat) < 2 ^ 256 := by decide
 have o0 : (0 : Nat) < 2 ^ 256 := by decide
 obtain ⟨d, hd⟩ : ∃ d, d = (t + 1) % 2 ^ 256 := ⟨_, rfl⟩
 have hdl : d < 2 ^ 256 := by omega
 refine CallA.eV 34 func64 ntmps64 results64 ?_
 refine sqcx ?_
 refine tqcz (cj2 @ez @vbg) ?_
 refine (pof_ok (n := 1)).det' ?_
 rw [show (1 : UInt64).toNat = 1 from rfl]
 refine tqcz (cj2 @ez @vbg) ?_
 refine (padd_ok ht o1).det' ?_
 rw [<- hd]
 by_cases c1 : 2 ^ 256 <= t + 1
 . have i1 := decide_eq_true c1
   refine tqcz (cj3 @ez @vbg @i1) ?_
   exact Vw.cut ⟨by rw [AV.wo, AV.woL_eq, Bg_wo, wkT, if_neg (by omega), if_pos (by omega)], rfl, rfl⟩
 have i1 := decide_eq_false c1
 have hd1 : d = t + 1 := by rw [hd, Nat.mod_eq_of_lt (by omega)]
 by_cases c0 : t = 0
 . have i0 := eq_true c0
   simp -dsimp +decide (disch := omega) only [vt2, v1q, ↓reduceIte, Nat.reduceSub, Nat.reduceAdd, Nat.reduceMul, Nat.reduceLT, Int.reduceAdd, Int.reduceSub, Int.reduceToNat, v2q, ez, vbg, i1, eqB ht o0, i0]
   refine (psub_ok ht o1).det' ?_
   refine tqcz (cj3 @ez @vbg @i0) ?_
   exact Vw.cut ⟨by rw [AV.wo, AV.woL_eq, Bg_wo, wkT, if_pos c0, c0], rfl, rfl⟩
 have i0 := eq_false c0
 simp -dsimp +decide (disch := omega) only [vt2, v1q, ↓reduceIte, Nat.reduceSub, Nat.reduceAdd, Nat.reduceMul, Nat.reduceLT, Int.reduceAdd, Int.reduceSub, Int.reduceToNat, v2q, ez, vbg, i1, eqB ht o0, i0]
 refine SemA.loopK (T.length + 4) (fun s : Nat × Nat => [(1, .ptr T.length 0), (2, .ptr (T.length + 1) 0), (3, .ptr (T.length + 2) 0), (4, .ptr (T.length + 3) 0), (33, wint (s.1 : Int))]) (fun s => T ++ [.cells 47 (Bg s.2), .cells 47 (Bg 0), .cells 47 (Bg 1), .cells 47 (Bg d)]) (fun s => s.1 <= 4 /\ s.2 < 2 ^ 256 /\ s.2 / 2 ^ (64 * s.1) = t / 2 ^ (64 * s.1) /\ s.2 % 2 ^ (64 * s.1) + t % 2 ^ (64 * s.1) + 1 = 2 ^ (64 * s.1)) (fun s => 4 - s.1) (0, t) [] 1 (fun _ : Unit => [(1, .ptr T.length 0), (2, .ptr (T.length + 1) 0), (3, .ptr (T.length + 2) 0), (4, .ptr (T.length + 3) 0)]) (fun _ => T ++ [.cells 47 (Bg (2 ^ 256 - d)), .cells 47 (Bg 0), .cells 47 (Bg 1), .cells 47 (Bg d)]) (fun _ => True) (by omega) ⟨by simp, ht, rfl, by simp [Nat.mod_one]⟩ (by (simp -dsimp +decide (disch := omega) only [vt2, v1q, ↓reduceIte, Nat.reduceSub, Nat.reduceAdd, Nat.reduceMul, Nat.reduceLT, Int.reduceAdd, Int.reduceSub, Int.reduceToNat, v4q]); first | rfl | exact ⟨rfl, rfl, rfl, rfl, rfl, rfl⟩ | done) rfl (by simp) ?_ ?_
 . rintro ⟨k, w⟩ g ⟨hk, hw, h1, h2⟩
   dsimp only at hk hw h1 h2
   refine SemA.o ?_
   refine sqcy ?_
   refine CondP.dec (fun h => ?_) (fun h => ?_)
   . have hk4 : k < 4 := by omega
     have hgw := Bg_get w hk4
     have g0 := fun l => gn0 T (.cells 47 (Bg w)) l
     have lw' : (limb w k).toNat < 2 ^ 64 := UInt64.toNat_lt _
     have hnot : (~~~(limb w k)).toNat = 2 ^ 64 - 1 - (limb w k).toNat := UInt64.toNat_not _
     obtain ⟨w', hw', hs, g1, g2, g3⟩ := Bg_put (r := 2 ^ 64 - 1 - (limb w k).toNat) hw hk4 (by omega)
     have hs2 := hs (~~~(limb w k)) hnot
     refine tqcz (cj4 @vbg @g0 @hgw @Bg_len) ?_
     refine ⟨⟨by omega, by omega⟩, un_xor64 ?_⟩
     refine tqcz (cj6 @vbg @g0 @hgw @Bg_len @hs2 @wt) ?_
     refine ⟨⟨by omega, by omega⟩, by omega, (k + 1, w'), ⟨⟨by dsimp only; omega, hw', ?_, ?_⟩, by dsimp only; omega⟩, rfl, rfl⟩
     . dsimp only
       rw [g3]
       have := div_next w k
       have := div_next t k
       omega
     . dsimp only
       have hx2 := mod_next t k
       have hw2 := mod_next w' k
       have e1 : t / 2 ^ (64 * k) % 2 ^ 64 = w / 2 ^ (64 * k) % 2 ^ 64 := by rw [h1]
       rw [limb_nat] at g2 lw'
       rw [hx2, hw2, g1, g2, e1]
       obtain ⟨L, hL⟩ : ∃ L, L = w / 2 ^ (64 * k) % 2 ^ 64 := ⟨_, rfl⟩
       rw [<- hL] at lw' ⊢
       have e4 : 2 ^ (64 * k) * (2 ^ 64 - 1 - L) + 2 ^ (64 * k) * L + 2 ^ (64 * k) = 2 ^ (64 * (k + 1)) := by
        rw [<- Nat.mul_add, show 2 ^ 64 - 1 - L + L = 2 ^ 64 - 1 by omega, Nat.mul_add 64, Nat.mul_one, Nat.pow_add]
        generalize 2 ^ (64 * k) = A
        omega
       omega
   . have e : k = 4 := by omega
     subst e
     simp only [Nat.reduceMul] at h1 h2
     have : w = 2 ^ 256 - d := by omega
     refine tqcz (cj3 @vbg @wt @this) ?_
     exact ⟨(), trivial⟩
 . rintro _ g tmp -
   refine tqcz @vbg ?_
   refine (pdiv_ok (show 2 ^ 256 - d < 2 ^ 256 by omega) hdl (by omega)).det' ?_
   have hq : (2 ^ 256 - d) / d < 2 ^ 256 := Nat.lt_of_le_of_lt (Nat.div_le_self _ _) (by omega)
   refine tqcz (cj2 @vbg @ez) ?_
   refine (padd_ok hq o1).det' ?_
   have hw : ((2 ^ 256 - d) / d + 1) % 2 ^ 256 = wkT t := by
    have := wkT_lt t
    rw [wk_div (by omega) (by omega)]
    unfold wkT at this ⊢
    rw [if_neg c0, if_neg (by omega)] at this ⊢
    rw [hd1, Nat.mod_eq_of_lt this]
   rw [hw]
   refine tqcz (cj2 @vbg @ez) ?_
   exact Vw.cut ⟨by rw [AV.wo, AV.woL_eq, Bg_wo], rfl, rfl⟩
def wkH (h : Hdr) : Nat := wkT (ofN h.bits)
def sumH (l : List Hdr) : Nat := l.foldl (fun s h => (s + wkH h) % 2 ^ 256) 0
theorem wkH_lt (h : Hdr) : wkH h < 2 ^ 256 := wkT_lt _
theorem sumH_snoc (l : List Hdr) (h : Hdr) : sumH (l ++ [h]) = (sumH l + wkH h) % 2 ^ 256 := by rw [sumH, List.foldl_append]; rfl
theorem sumH_lt : ∀ l : List Hdr, sumH l < 2 ^ 256 := by
 intro l
 rcases List.eq_nil_or_concat l with rfl | ⟨m, h, rfl⟩
 . decide
 . rw [List.concat_eq_append, sumH_snoc]; exact Nat.mod_lt _ (by decide)
theorem ofV_eq (o : Option Nat) : ofV o = .tu [.ag (Bg (o.getD 0)), .p (.bool o.isSome)] := by cases o <;> rfl
theorem hwork_ok {T : Tbl} {h : Hdr} (ok : h.Ok) : CallA prog G 29 [.ag h.cs] T fun v T' es => v = .ag (Bg (wkH h)) /\ T' = T /\ es = [] := by
 refine CallA.wfs fun wf => ?_
 have wt := wf.t
 have hr := Hdr.rules ok
 have ez : [oQ, oQ, oQ, oQ] = Bg 0 := rfl
 refine CallA.eV 5 func29 ntmps29 results29 ?_
 refine sqcx ?_
 refine tqcz (cj3 @ez @vbg @hr) ?_
 refine pof03_ok.det' ?_
 rw [ofV_eq]
 show _
 refine tqcz (cj3 @ez @vbg @hr) ?_
 refine (ptwork_ok (ofN_lt _)).det' ?_
 refine tqcz (cj3 @ez @vbg @hr) ?_
 exact Vw.cut ⟨by rw [AV.wo, AV.woL_eq, Bg_wo]; rfl, rfl, rfl⟩
theorem sum14_ok {T : Tbl} {a : AV} {hs : List Hdr} (hb : Es T 68 Hdr.cs a hs) (hok : ∀ x ∈ hs, x.Ok) (hl : hs.length <= 1000000) : CallA prog G 14 [a] T fun v T' es => v = .ag (Bg (sumH hs)) /\ T' = T /\ es = [] := by
 refine CallA.wfs fun wf => ?_
 have wt := wf.t
 have wa := wf.arg a (by simp)
 have ez : [oQ, oQ, oQ, oQ] = Bg 0 := rfl
 have hsr := Sl.rules hb.sl (by decide)
 have hld := Sl.loads hb.sl (P := prog) (t := 23) (by (simp -dsimp +decide only [vt2, v1q, ↓reduceIte, Nat.reduceSub, Nat.reduceAdd, Nat.reduceMul, Nat.reduceLT, Int.reduceAdd, Int.reduceSub, Int.reduceToNat, ci]))
 refine CallA.eV 7 func14 ntmps14 results14 ?_
 refine sqcx ?_
 refine tqcz (cj3 @ez @vbg @hsr) ?_
 refine SemA.loopK (T.length + 2) (fun k : Nat => [(0, a), (2, .ptr T.length 0), (3, .ptr (T.length + 1) 0), (4, wint (k : Int))]) (fun k => T ++ [.cells 47 (Bg 0), .cells 47 (Bg (sumH (hs.take k)))]) (fun k => k <= hs.length) (fun k => hs.length - k) 0 [] 0 (fun _ : Unit => [(2, .ptr T.length 0), (3, .ptr (T.length + 1) 0)]) (fun _ => T ++ [.cells 47 (Bg 0), .cells 47 (Bg (sumH hs))]) (fun _ => True) (by omega) (by omega) (by (simp -dsimp +decide (disch := omega) only [vt2, v1q, ↓reduceIte, Nat.reduceSub, Nat.reduceAdd, Nat.reduceMul, Nat.reduceLT, Int.reduceAdd, Int.reduceSub, Int.reduceToNat, v4q]); first | rfl | exact ⟨rfl, rfl, rfl, rfl, rfl⟩ | done) rfl (by simp) ?_ ?_
 . rintro k g hk
   refine SemA.o ?_
   by_cases hkn : k = hs.length
   . have i1 := eq_false (show ¬ (k : Int) < (hs.length : Int) by omega)
     refine tqcz (cj4 @hsr @i1 @wt @vbg) ?_
     rw [hkn, List.take_length]
     exact ⟨(), rfl⟩
   . have i1 := eq_true (show (k : Int) < (hs.length : Int) by omega)
     obtain ⟨x, hx⟩ : ∃ x, hs[k]? = some x := ⟨hs[k]'(by omega), by simp⟩
     have hxo := hok x (List.mem_of_getElem? hx)
     have hxr := Hdr.rules hxo
     have hwd : ∀ x ∈ hs, (Hdr.cs x).length = 68 := fun x hx => Hdr.cs_len (hok x hx)
     have hc := flat_cell hwd hx (j := 66) (by decide)
     rw [hxr.2.2.2.2.2.1] at hc
     have hsf := fun (j k : Nat) (K : AV -> Prop) => Sl.fld (K := K) hb.sl (by omega) j k
     have g1 := fun a l => gn1 T a (.cells 47 (Bg (sumH (hs.take k)))) l
     have hnx : (sumH (hs.take k) + wkH x) % 2 ^ 256 = sumH (hs.take (k + 1)) := by rw [List.take_add_one, hx]; exact (sumH_snoc _ _).symm
     refine tqcz (cj7 @hsr @i1 @wt @vbg @hsf @hld @hc) ?_
     refine ⟨by omega, of03_ok.det' ?_⟩
     rw [ofV_eq]
     refine tqcz (cj5 @hsr @i1 @wt @vbg @ez) ?_
     refine SemA.drawE 7 (fun i => true) [(0, true), (1, true), (2, false), (3, false), (4, true), (5, true), (6, true), (7, false)] mixed (by kernel_rfl) ?_
     refine tqcz (cj6 @hsr @i1 @wt @vbg @ez @kallT) ?_
     refine (work03_ok (t := (ofT x.bits.toNat).getD 0) (ofN_lt x.bits)).det' ?_
     refine tqcz (cj6 @hsr @i1 @wt @vbg @ez @kallT) ?_
     refine (add02_ok (sumH_lt _) (wkT_lt _)).det' ?_
     refine tqcz (cj6 @hsr @i1 @wt @vbg @ez @kallT) ?_
     exact ⟨k + 1, ⟨by omega, by omega⟩, ⟨wa.1 2, rfl⟩, by rw [<- hnx]; rfl⟩
 . rintro _ g tmp -
   refine tqcz @vbg ?_
   exact Vw.cut ⟨by rw [AV.wo, AV.woL_eq, Bg_wo], rfl, rfl⟩
def Fst.onOf (s : Fst) (i : Nat) : Option Nat := (s.nd i).bind Nd.on
def Fst.cnt (s : Fst) (i : Nat) : Nat := (s.bc.filter fun k => decide (s.onOf k = some i)).length
structure Fst.G (s : Fst) : Prop where
 n : s.bc.Nodup
 e : s.es = s.bc.map fun i => ((s.hd i).id, i)
 x : ∀ i ∈ s.bc, ∃ x, s.nd i = some x
 u : (s.bc.map fun i => (s.hd i).id).Nodup
 p : ∀ i ∈ s.bc, ∃ r, Path s (i :: r) /\ ∀ j ∈ i :: r, j ∈ s.bc
 r : ∃ r0, s.bc.head? = some r0 /\ ∀ i ∈ s.bc, s.onOf i = none ↔ i = r0
 k : ∀ i x j, s.nd i = some x -> i ∈ s.bc -> x.on = some j -> x.h.prev = (s.hd j).id
 w : ∀ i x r, s.nd i = some x -> Path s (i :: r) -> i ∈ s.bc -> x.wk = sumH (hds s (i :: r))
 c : ∀ i x, s.nd i = some x -> i ∈ s.bc -> x.kids = s.cnt i
 t : s.top ∈ s.bc
 b : ∀ i x r, s.nd i = some x -> i ∈ s.bc -> Path s (s.top :: r) -> (x.best = true ↔ i ∈ s.top :: r)
theorem Path.uniq {s : Fst} : ∀ {i : Nat} {r r' : List Nat}, Path s (i :: r) -> Path s (i :: r') -> r = r'
 | i, [], [], _, _ => rfl
 | i, [], j :: r', ⟨x, h1, h2, h3⟩, ⟨⟨y, g1, g2, g3⟩, _⟩ => by rw [h1] at g1; cases g1; rw [h2] at g2; cases g2
 | i, j :: r, [], ⟨⟨y, g1, g2, g3⟩, _⟩, ⟨x, h1, h2, h3⟩ => by rw [h1] at g1; cases g1; rw [h2] at g2; cases g2
 | i, j :: r, j' :: r', ⟨⟨x, h1, h2, h3⟩, h4⟩, ⟨⟨y, g1, g2, g3⟩, g4⟩ => by
   rw [h1] at g1; cases g1; rw [h2] at g2; cases g2
   rw [Path.uniq h4 g4]
theorem Path.nodup {s : Fst} : ∀ {l : List Nat}, Path s l -> l.Nodup /\ ∀ i ∈ l, ∃ x, s.nd i = some x /\ x.ht < l.length
 | [], h => h.elim
 | [i], ⟨x, h1, h2, h3⟩ => ⟨by simp, fun j hj => by rw [List.mem_singleton.1 hj]; exact ⟨x, h1, by rw [h3]; simp⟩⟩
 | i :: j :: r, ⟨⟨x, h1, h2, h3⟩, h4⟩ => by
   obtain ⟨g1, g2⟩ := Path.nodup h4
   refine ⟨List.nodup_cons.2 ⟨fun hi => ?_, g1⟩, fun k hk => ?_⟩
   . obtain ⟨y, hy, hl⟩ := g2 i hi
     rw [h1] at hy; cases hy
     simp only [List.length_cons] at hl; omega
   . rcases List.mem_cons.1 hk with rfl | hk
     . exact ⟨x, h1, by rw [h3]; simp⟩
     . obtain ⟨y, hy, hl⟩ := g2 k hk
       exact ⟨y, hy, by simp only [List.length_cons] at hl ⊢; omega⟩
theorem nodup_len : ∀ {l m : List Nat}, l.Nodup -> (∀ i ∈ l, i ∈ m) -> l.length <= m.length
 | [], _, _, _ => Nat.zero_le _
 | a :: l, m, h, hs => by
   have ha := hs a (by simp)
   obtain ⟨h1, h2⟩ := List.nodup_cons.1 h
   have := nodup_len (l := l) (m := m.erase a) h2 fun i hi => (List.mem_erase_of_ne (fun e => h1 (by rw [<- e]; exact hi))).2 (hs i (by simp [hi]))
   rw [List.length_erase_of_mem ha] at this
   have := List.length_pos_of_mem ha
   rw [List.length_cons]; omega
theorem Path.len {s : Fst} {l : List Nat} (h : Path s l) (hs : ∀ i ∈ l, i ∈ s.bc) : l.length <= s.bc.length := nodup_len h.nodup.1 hs
theorem Path.mem {s : Fst} : ∀ {l : List Nat}, Path s l -> ∀ j ∈ l, ∃ r, Path s (j :: r) /\ (j :: r) <:+ l
 | [], h, _, _ => h.elim
 | [i], h, j, hj => by rw [List.mem_singleton.1 hj]; exact ⟨[], h, List.suffix_refl _⟩
 | i :: k :: r, h, j, hj => by
   rcases List.mem_cons.1 hj with rfl | hj
   . exact ⟨_, h, List.suffix_refl _⟩
   . obtain ⟨q, h1, h2⟩ := Path.mem h.2 j hj
     exact ⟨q, h1, h2.trans (List.suffix_cons _ _)⟩
theorem Fst.In.new {s : Fst} {n : Nat} (h : s.In n) (x : Nd) : (s.setN n x).In (n + 1) := by
 have hf := h.f
 have hm := h.m
 have hb := h.b
 refine ⟨by show s.f < _; omega, by show s.m < _; omega, by show s.b < _; omega, h.fm, h.fb, h.mb, ?_, ?_, ?_, fun j z hj => ?_⟩
 . show (if s.f = n then _ else _) = _; rw [if_neg (by omega)]; exact h.nf
 . show (if s.m = n then _ else _) = _; rw [if_neg (by omega)]; exact h.nm
 . show (if s.b = n then _ else _) = _; rw [if_neg (by omega)]; exact h.nb
 . have hj' : (if j = n then some x else s.nd j) = some z := hj
   split at hj'
   . omega
   . have := h.nn j z hj'; omega
end Go.Proofs.YtfpjalgfnjjcmaaGreatDoor
namespace Go.Proofs.YtfpjalgfnjjcmaaGreatDoor
open Go.E Go.Proofs.YtfpjalgfnjjcmaaGreatDoor.Tryz Go.Proofs.Tryz
def Fst.newN (hd : Hdr) (p : Nat) (y : Nd) : Nd := ⟨hd, some p, y.ht + 1, (y.wk + wkH hd) % 2 ^ 256, 0, false⟩
def Fst.addN (s : Fst) (hd : Hdr) (i p : Nat) (y : Nd) : Fst :=
 { (s.setN p { y with kids := y.kids + 1 }).setN i (Fst.newN hd p y) with es := s.es ++ [(hd.id, i)], bc := s.bc ++ [i], oa := .sl s.b 0 (s.bc.length + 1) }
inductive Drops : Fst -> List (List UInt8) -> Fst -> Prop
 | done {s : Fst} {x : Nd} : s.nd s.top = some x -> s.bc.length <= x.ht + 1 + s.room -> Drops s [] s
 | step {s s' : Fst} {x y z : Nd} {k i p : Nat} {l : List (List UInt8)} : s.nd s.top = some z -> z.ht + 1 + s.room < s.bc.length -> s.bc[k]? = some i -> (∀ (j q : Nat), j < k -> s.bc[j]? = some q -> s.leaf q = false) -> s.leaf i = true -> s.nd i = some x -> x.on = some p -> s.nd p = some y ->
  Drops (s.drop k x p y) l s' -> Drops s (x.h.id :: l) s'
inductive AddR (n : Nat) (s : Fst) (hd : Hdr) : Fst -> Nat -> List (List UInt8) -> Int -> Prop
 | known {i : Nat} {x : Nd} : s.look hd.id = some i -> s.nd i = some x -> AddR n s hd s x.ht [] 0
 | none : s.look hd.id = none -> s.look hd.prev = none -> AddR n s hd s 0 [] 9
 | wrong {p : Nat} {r : List Nat} : s.look hd.id = none -> s.look hd.prev = some p -> Path s (p :: r) -> rightE s.p (hds s (p :: r)) hd ≠ 0 -> AddR n s hd s 0 [] (rightE s.p (hds s (p :: r)) hd)
 | right {p i : Nat} {r rt : List Nat} {y z : Nd} {s2 s' : Fst} {l : List (List UInt8)} : s.look hd.id = none -> s.look hd.prev = some p -> Path s (p :: r) -> rightE s.p (hds s (p :: r)) hd = 0 -> s.nd p = some y -> (∀ j x, s.nd j = some x -> j < i) -> n <= i -> s.nd s.top = some z -> Path s (s.top :: rt) ->
  s2 = (if z.wk < (y.wk + wkH hd) % 2 ^ 256 then (s.addN hd i p y).turn (s.top :: rt) (i :: p :: r) i else s.addN hd i p y) -> Drops s2 l s' -> AddR n s hd s' (y.ht + 1) l 0
theorem Fst.G.look_none {s : Fst} (g : s.G) {id : List UInt8} (h : s.look id = none) : ∀ i ∈ s.bc, (s.hd i).id ≠ id := by
 intro i hi e
 unfold Fst.look at h
 rw [Option.map_eq_none_iff, List.find?_eq_none, g.e] at h
 have := h ((s.hd i).id, i) (List.mem_map.2 ⟨i, hi, rfl⟩)
 simp [e] at this
theorem Fst.G.look {s : Fst} (g : s.G) {id : List UInt8} {i : Nat} (h : s.look id = some i) : i ∈ s.bc /\ (s.hd i).id = id := by
 have := Fst.look_some h
 rw [g.e, List.mem_map] at this
 obtain ⟨j, hj, e⟩ := this
 simp only [Prod.mk.injEq] at e
 obtain ⟨e1, rfl⟩ := e
 exact ⟨hj, e1⟩
def Nd.core (x : Nd) : Hdr × Option Nat × Nat × Nat := (x.h, x.on, x.ht, x.wk)
def Sim (s s' : Fst) (D : Nat -> Prop) : Prop := ∀ j, D j -> (s'.nd j).map Nd.core = (s.nd j).map Nd.core
section
variable {s s' : Fst} {D : Nat -> Prop}
theorem Sim.get (h : Sim s s' D) {j : Nat} (hj : D j) {x : Nd} (hx : s.nd j = some x) : ∃ y, s'.nd j = some y /\ y.h = x.h /\ y.on = x.on /\ y.ht = x.ht /\ y.wk = x.wk := by
 have := h j hj
 rw [hx] at this
 cases hy : s'.nd j with
 | none => rw [hy] at this; cases this
 | some y =>
   rw [hy] at this
   simp only [Option.map_some, Nd.core, Option.some.injEq, Prod.mk.injEq] at this
   exact ⟨y, rfl, this.1, this.2.1, this.2.2.1, this.2.2.2⟩
theorem Sim.symm (h : Sim s s' D) : Sim s' s D := fun j hj => (h j hj).symm
theorem Sim.hd (h : Sim s s' D) {j : Nat} (hj : D j) : s'.hd j = s.hd j := by
 cases hx : s.nd j with
 | none =>
   have := h j hj
   rw [hx] at this
   have hn : s'.nd j = none := by cases hy : s'.nd j with | none => rfl | some y => rw [hy] at this; cases this
   rw [Fst.hd, Fst.hd, hx, hn]
 | some x =>
   obtain ⟨y, h1, h2, _⟩ := h.get hj hx
   rw [Fst.hd_at h1, Fst.hd_at hx, h2]
theorem Sim.on (h : Sim s s' D) {j : Nat} (hj : D j) : s'.onOf j = s.onOf j := by
 cases hx : s.nd j with
 | none =>
   have := h j hj
   rw [hx] at this
   have hn : s'.nd j = none := by cases hy : s'.nd j with | none => rfl | some y => rw [hy] at this; cases this
   rw [Fst.onOf, Fst.onOf, hx, hn]
 | some x =>
   obtain ⟨y, h1, _, h2, _⟩ := h.get hj hx
   rw [Fst.onOf, Fst.onOf, h1, hx]; exact h2
theorem Sim.hds (h : Sim s s' D) {l : List Nat} (hl : ∀ j ∈ l, D j) : hds s' l = hds s l := by
 rw [Proofs.YtfpjalgfnjjcmaaGreatDoor.hds, Proofs.YtfpjalgfnjjcmaaGreatDoor.hds, List.map_congr_left fun j hj => h.hd (hl j hj)]
theorem Path.sim (h : Sim s s' D) : ∀ {l : List Nat}, Path s l -> (∀ j ∈ l, D j) -> Path s' l
 | [], hp, _ => hp
 | [i], ⟨x, h1, h2, h3⟩, hd => by
   obtain ⟨y, q1, q2, q3, q4, q5⟩ := h.get (hd i (by simp)) h1
   exact ⟨y, q1, q3.trans h2, q4.trans h3⟩
 | i :: j :: r, ⟨⟨x, h1, h2, h3⟩, h4⟩, hd => by
   obtain ⟨y, q1, q2, q3, q4, q5⟩ := h.get (hd i (by simp)) h1
   exact ⟨⟨y, q1, q3.trans h2, q4.trans h3⟩, Path.sim h h4 fun j hj => hd j (by simp [hj])⟩
end
theorem Fst.onOf_at {s : Fst} {i : Nat} {x : Nd} (h : s.nd i = some x) : s.onOf i = x.on := by rw [Fst.onOf, h]; rfl
theorem Fst.G.on_mem {s : Fst} (g : s.G) {i j : Nat} (hi : i ∈ s.bc) (h : s.onOf i = some j) : j ∈ s.bc /\ ∃ r, Path s (i :: j :: r) := by
 obtain ⟨r, h1, h2⟩ := g.p i hi
 obtain ⟨x, q1, q2, q3⟩ := h1.head
 rw [Fst.onOf_at q1, q3] at h
 cases r with
 | nil => cases h
 | cons k r =>
   simp only [List.head?_cons, Option.some.injEq] at h
   subst h
   exact ⟨h2 _ (by simp), r, h1⟩
theorem Path.on {s : Fst} : ∀ {i : Nat} {r : List Nat}, Path s (i :: r) -> ∀ j ∈ r, ∃ k ∈ i :: r, s.onOf k = some j
 | i, [], _, j, hj => by cases hj
 | i, k :: r, h, j, hj => by
   rcases List.mem_cons.1 hj with rfl | hj
   . obtain ⟨x, h1, h2, h3⟩ := h.1
     exact ⟨i, by simp, by rw [Fst.onOf_at h1, h2]⟩
   . obtain ⟨q, h1, h2⟩ := Path.on h.2 j hj
     exact ⟨q, by simp [h1], h2⟩
theorem Path.last {s : Fst} : ∀ {l : List Nat}, Path s l -> ∃ i ∈ l, s.onOf i = none
 | [], h => h.elim
 | [i], ⟨x, h1, h2, _⟩ => ⟨i, by simp, by rw [Fst.onOf_at h1, h2]⟩
 | i :: j :: r, h => by
   obtain ⟨k, h1, h2⟩ := Path.last h.2
   exact ⟨k, by simp [h1], h2⟩
theorem addN_nd {s : Fst} {hd : Hdr} {i p : Nat} {y : Nd} (j : Nat) : (s.addN hd i p y).nd j = if j = i then some (Fst.newN hd p y) else if j = p then some { y with kids := y.kids + 1 } else s.nd j := rfl
theorem addN_sim {s : Fst} {hd : Hdr} {i p : Nat} {y : Nd} (hy : s.nd p = some y) : Sim s (s.addN hd i p y) (fun j => j ≠ i) := fun j hj => by
 rw [addN_nd, if_neg hj]
 by_cases hp : j = p
 . rw [if_pos hp, hp, hy]; rfl
 . rw [if_neg hp]
theorem Fst.node_ne {s : Fst} {i j : Nat} {x : Nd} (hi : s.nd i = none) (hj : s.nd j = some x) : j ≠ i := fun e => by rw [e, hi] at hj; cases hj
theorem Path.addO {s : Fst} {hd : Hdr} {i p : Nat} {l : List Nat} {y : Nd} (hy : s.nd p = some y) (hi : s.nd i = none) (h : Path s l) : Path (s.addN hd i p y) l :=
 h.sim (addN_sim hy) fun j hj => by obtain ⟨x, hx⟩ := h.all j hj; exact Fst.node_ne hi hx
theorem Path.addN {s : Fst} {hd : Hdr} {i p : Nat} {r : List Nat} {y : Nd} (hy : s.nd p = some y) (hi : s.nd i = none) (h : Path s (p :: r)) : Path (s.addN hd i p y) (i :: p :: r) := by
 refine ⟨⟨Fst.newN hd p y, by rw [addN_nd, if_pos rfl], rfl, ?_⟩, h.addO hy hi⟩
 obtain ⟨x, h1, h2, h3⟩ := h.head
 rw [hy] at h1; cases h1
 show y.ht + 1 = _
 rw [h2]
theorem Fst.G.addN {s : Fst} (g : s.G) {hd : Hdr} {i p : Nat} {y : Nd} (hl : s.look hd.id = none) (hp : s.look hd.prev = some p) (hy : s.nd p = some y) (hi : s.nd i = none) : (s.addN hd i p y).G := by
 obtain ⟨hpb, hpi⟩ := g.look hp
 have hib : i ∉ s.bc := fun h => by obtain ⟨x, hx⟩ := g.x i h; rw [hi] at hx; cases hx
 have hne : ∀ j ∈ s.bc, j ≠ i := fun j hj e => hib (e ▸ hj)
 have hpne := hne p hpb
 have sim := addN_sim (hd := hd) (i := i) hy
 have hsi : (s.addN hd i p y).nd i = some (Fst.newN hd p y) := by rw [addN_nd, if_pos rfl]
 have hbc : (s.addN hd i p y).bc = s.bc ++ [i] := rfl
 have hhi : (s.addN hd i p y).hd i = hd := by rw [Fst.hd_at hsi]; rfl
 have hoi : (s.addN hd i p y).onOf i = some p := by rw [Fst.onOf_at hsi]; rfl
 obtain ⟨rp, hrp, hrpb⟩ := g.p p hpb
 have old : ∀ j x, (s.addN hd i p y).nd j = some x -> j ∈ s.bc -> ∃ x0, s.nd j = some x0 /\ x.h = x0.h /\ x.on = x0.on /\ x.ht = x0.ht /\ x.wk = x0.wk /\ x.best = x0.best /\ x.kids = x0.kids + (if j = p then 1 else 0) := by
  intro j x hx hj
  rw [addN_nd, if_neg (hne j hj)] at hx
  by_cases hjp : j = p
  . rw [if_pos hjp] at hx; cases hx
    exact ⟨y, hjp ▸ hy, rfl, rfl, rfl, rfl, rfl, by rw [if_pos hjp]⟩
  . rw [if_neg hjp] at hx
    exact ⟨x, hx, rfl, rfl, rfl, rfl, rfl, by rw [if_neg hjp]; rfl⟩
 have hpath : ∀ j ∈ s.bc, ∀ r, Path (s.addN hd i p y) (j :: r) -> Path s (j :: r) /\ ∀ k ∈ j :: r, k ∈ s.bc := by
  intro j hj r hr
  obtain ⟨r0, h1, h2⟩ := g.p j hj
  have := Path.uniq hr (h1.addO hy hi)
  subst this
  exact ⟨h1, h2⟩
 refine ⟨?_, ?_, ?_, ?_, ?_, ?_, ?_, ?_, ?_, ?_, ?_⟩
 . rw [hbc]
   exact List.nodup_append.2 ⟨g.n, by simp, fun a ha b hb => by rw [List.mem_singleton.1 hb]; exact hne a ha⟩
 . show s.es ++ [(hd.id, i)] = (s.bc ++ [i]).map _
   rw [List.map_append, g.e, List.map_congr_left (g := fun j => (((s.addN hd i p y).hd j).id, j)) fun j hj => by rw [sim.hd (hne j hj)]]
   rw [List.map_cons, List.map_nil, hhi]
 . intro j hj
   rw [hbc] at hj
   rcases List.mem_append.1 hj with hj | hj
   . obtain ⟨x, hx⟩ := g.x j hj
     obtain ⟨y', h1, _⟩ := sim.get (hne j hj) hx
     exact ⟨y', h1⟩
   . rw [List.mem_singleton.1 hj]; exact ⟨_, hsi⟩
 . rw [hbc, List.map_append, List.map_congr_left (g := fun j => (s.hd j).id) fun j hj => by rw [sim.hd (hne j hj)]]
   refine List.nodup_append.2 ⟨g.u, by simp, fun a ha b hb => ?_⟩
   obtain ⟨j, hj, rfl⟩ := List.mem_map.1 ha
   rw [List.map_cons, List.map_nil, List.mem_singleton, hhi] at hb
   rw [hb]
   exact g.look_none hl j hj
 . intro j hj
   rw [hbc] at hj
   rcases List.mem_append.1 hj with hj | hj
   . obtain ⟨r, h1, h2⟩ := g.p j hj
     exact ⟨r, h1.addO hy hi, fun k hk => by rw [hbc]; exact List.mem_append_left _ (h2 k hk)⟩
   . rw [List.mem_singleton.1 hj]
     refine ⟨p :: rp, hrp.addN hy hi, fun k hk => ?_⟩
     rw [hbc]
     rcases List.mem_cons.1 hk with rfl | hk
     . simp
     . exact List.mem_append_left _ (hrpb k hk)
 . obtain ⟨r0, h1, h2⟩ := g.r
   have hr0 : r0 ∈ s.bc := List.mem_of_head? h1
   refine ⟨r0, by rw [hbc, List.head?_append, h1]; rfl, fun j hj => ?_⟩
   rw [hbc] at hj
   rcases List.mem_append.1 hj with hj | hj
   . rw [sim.on (hne j hj)]; exact h2 j hj
   . rw [List.mem_singleton.1 hj, hoi]
     exact ⟨fun e => (by cases e), fun e => absurd e.symm (hne r0 hr0)⟩
 . intro j x q hx hj hq
   rw [hbc] at hj
   rcases List.mem_append.1 hj with hj | hj
   . obtain ⟨x0, h1, h2, h3, _⟩ := old j x hx hj
     rw [h3] at hq
     have hqb := (g.on_mem hj (by rw [Fst.onOf_at h1, hq])).1
     rw [h2, sim.hd (hne q hqb)]
     exact g.k j x0 q h1 hj hq
   . rw [List.mem_singleton.1 hj, hsi] at hx
     cases hx; cases hq
     rw [sim.hd hpne]; exact hpi.symm
 . intro j x r hx hr hj
   rw [hbc] at hj
   rcases List.mem_append.1 hj with hj | hj
   . obtain ⟨x0, h1, h2, h3, h4, h5, _⟩ := old j x hx hj
     obtain ⟨q1, q2⟩ := hpath j hj r hr
     rw [h5, g.w j x0 r h1 q1 hj, sim.hds fun k hk => hne k (q2 k hk)]
   . have e := List.mem_singleton.1 hj
     subst e
     rw [hsi] at hx; cases hx
     have := Path.uniq hr (hrp.addN hy hi)
     subst this
     show (y.wk + wkH hd) % 2 ^ 256 = _
     have e2 : hds (s.addN hd j p y) (j :: p :: rp) = hds (s.addN hd j p y) (p :: rp) ++ [hd] := by
      rw [hds, List.map_cons, List.reverse_cons, hhi]; rfl
     rw [e2, sim.hds fun k hk => hne k (hrpb k hk), sumH_snoc, g.w p y rp hy hrp hpb]
 . intro j x hx hj
   have hcnt : ∀ j, j ∈ s.bc -> (s.addN hd i p y).cnt j = s.cnt j + (if j = p then 1 else 0) := fun j hj => by
    rw [Fst.cnt, Fst.cnt, hbc, List.filter_append, List.length_append, List.filter_congr (q := fun k => decide (s.onOf k = some j)) fun k hk => by rw [sim.on (hne k hk)]]
    congr 1
    rw [List.filter_cons, hoi]
    by_cases hjp : j = p
    . rw [if_pos hjp, hjp]; simp
    . rw [if_neg hjp]
      have : ¬ p = j := fun e => hjp e.symm
      simp [this]
   rw [hbc] at hj
   rcases List.mem_append.1 hj with hj | hj
   . obtain ⟨x0, h1, _, _, _, _, _, h7⟩ := old j x hx hj
     rw [h7, hcnt j hj, g.c j x0 h1 hj]
   . have e := List.mem_singleton.1 hj
     subst e
     rw [hsi] at hx; cases hx
     show 0 = _
     rw [Fst.cnt, hbc, List.filter_append, List.length_append]
     have e1 : (s.bc.filter fun k => decide ((s.addN hd j p y).onOf k = some j)) = [] := by
      rw [List.filter_eq_nil_iff]
      intro k hk
      rw [sim.on (hne k hk)]
      simp only [decide_eq_true_eq]
      intro e
      exact hib (g.on_mem hk e).1
     rw [e1, List.filter_cons, hoi]
     simp [hpne]
 . rw [hbc]; exact List.mem_append_left _ g.t
 . intro j x r hx hj hr
   obtain ⟨q1, q2⟩ := hpath s.top g.t r hr
   rw [hbc] at hj
   rcases List.mem_append.1 hj with hj | hj
   . obtain ⟨x0, h1, _, _, _, _, h6, _⟩ := old j x hx hj
     rw [h6]; exact g.b j x0 r h1 hj q1
   . have e := List.mem_singleton.1 hj
     subst e
     rw [hsi] at hx; cases hx
     exact ⟨fun e => (by cases e), fun h => absurd (q2 j h) hib⟩
theorem FW.addN {V : Tbl} {s : Fst} (h : FW V s) (g : s.G) {hd : Hdr} (ok : hd.Ok) {p : Nat} {y : Nd} (hy : s.nd p = some y) (hlen : s.bc.length <= 100000) : FW (V ++ [.gone]) (s.addN hd V.length p y) := by
 have hl : (V ++ [AObj.gone]).length = V.length + 1 := by rw [List.length_append]; rfl
 have h1 : (s.setN p { y with kids := y.kids + 1 }).In V.length := h.i.setN hy _
 have h2 := (h1.new (Fst.newN hd p y)).put s.p s.room (.sl s.b 0 (s.bc.length + 1)) s.top (s.es ++ [(hd.id, V.length)]) (s.bc ++ [V.length])
 have hb := h.i.b
 have hpn := h.i.nn p y hy
 have nd : ∀ j x, (s.addN hd V.length p y).nd j = some x -> (j = V.length /\ x = Fst.newN hd p y) ∨ ∃ x0, s.nd j = some x0 /\ x.h = x0.h /\ x.on = x0.on := by
  intro j x hx
  rw [addN_nd] at hx
  split at hx
  . rename_i e; cases hx; exact .inl ⟨e, rfl⟩
  . split at hx
    . rename_i e; cases hx; exact .inr ⟨y, e ▸ hy, rfl, rfl⟩
    . exact .inr ⟨x, hx, rfl, rfl⟩
 have has : ∀ j, (∃ x, s.nd j = some x) -> ∃ x, (s.addN hd V.length p y).nd j = some x := by
  rintro j ⟨x, hx⟩
  rw [addN_nd]
  split
  . exact ⟨_, rfl⟩
  . split
    . exact ⟨_, rfl⟩
    . exact ⟨x, hx⟩
 refine ⟨by rw [hl]; exact h2, ⟨h.r.p, fun j x hx => ?_, fun q hq => ?_, ?_, fun x hx => ?_, fun j hj => ?_, fun j x k hx hk => ?_⟩, ⟨fun q hq => ?_, ?_⟩, ?_, fun e he => ?_, fun j x k hx hk => ?_, ?_⟩
 . rcases nd j x hx with ⟨_, rfl⟩ | ⟨x0, q1, q2, _⟩
   . exact ok
   . rw [q2]; exact h.r.h j x0 q1
 . show AV.wo q (.sl s.b 0 (s.bc.length + 1)) = _
   rw [AV.wo, hq s.b (by omega)]; rfl
 . rw [hl]; have := h.r.t; show s.top < _; omega
 . rw [hl]
   rcases List.mem_append.1 hx with hx | hx
   . have := h.r.e x hx; omega
   . rw [List.mem_singleton.1 hx]; show V.length < _; omega
 . rw [hl]
   rcases List.mem_append.1 hj with hj | hj
   . have := h.r.b j hj; omega
   . rw [List.mem_singleton.1 hj]; omega
 . rw [hl]
   rcases nd j x hx with ⟨_, rfl⟩ | ⟨x0, q1, _, q3⟩
   . cases hk; omega
   . rw [q3] at hk
     have := h.r.on j x0 k q1 hk; omega
 . rw [hl] at hq
   rw [List.map_append, h.v.wo q fun i hi => hq i (by omega)]; rfl
 . show (V ++ [AObj.gone]).map (AObj.wo (· == s.b)) = _
   rw [List.map_append, h.v.b]; rfl
 . show AV.sl s.b 0 (s.bc.length + 1) = .sl s.b 0 (s.bc ++ [V.length]).length
   rw [List.length_append]; rfl
 . rcases List.mem_append.1 he with he | he
   . exact h.k e he
   . rw [List.mem_singleton.1 he]; exact hd.id_len
 . rcases nd j x hx with ⟨_, rfl⟩ | ⟨x0, q1, _, q3⟩
   . cases hk; exact has p ⟨y, hy⟩
   . rw [q3] at hk
     exact has k (h.n j x0 k q1 hk)
 . show (s.bc ++ [V.length]).length <= _
   rw [List.length_append]; simp; omega
theorem setB_sim (s : Fst) (l : List Nat) (b : Bool) : Sim s (s.setB l b) (fun _ => True) := fun j _ => by
 cases hx : s.nd j with
 | none => rw [Fst.setB_none hx]
 | some x => rw [Fst.setB_some hx]; split <;> rfl
theorem Sim.trans {s s' s'' : Fst} {D : Nat -> Prop} (h : Sim s s' D) (h' : Sim s' s'' D) : Sim s s'' D := fun j hj => (h' j hj).trans (h j hj)
theorem turn_sim (s : Fst) (lt lx : List Nat) (i : Nat) : Sim s (s.turn lt lx i) (fun _ => True) := (setB_sim s lt false).trans (setB_sim _ lx true)
theorem turn_nd {s : Fst} {lt lx : List Nat} {i j : Nat} {x : Nd} (h : (s.turn lt lx i).nd j = some x) : ∃ x0, s.nd j = some x0 /\ x.h = x0.h /\ x.on = x0.on /\ x.ht = x0.ht /\ x.wk = x0.wk /\ x.kids = x0.kids /\ x.best = (if j ∈ lx then true else if j ∈ lt then false else x0.best) := by
 obtain ⟨x1, h1, rfl⟩ := Fst.setB_inv (s := s.setB lt false) h
 obtain ⟨x0, h0, rfl⟩ := Fst.setB_inv h1
 refine ⟨x0, h0, ?_⟩
 by_cases c1 : j ∈ lx <;> by_cases c2 : j ∈ lt <;> simp [c1, c2]
theorem Fst.G.sim {s s' : Fst} (g : s.G) (sim : Sim s s' (fun _ => True)) (hb : s'.bc = s.bc) (he : s'.es = s.es) (hkids : ∀ j x, s'.nd j = some x -> j ∈ s.bc -> ∃ x0, s.nd j = some x0 /\ x.kids = x0.kids) (ht : s'.top ∈ s.bc)
 (hbest : ∀ j x r, s'.nd j = some x -> j ∈ s.bc -> Path s (s'.top :: r) -> (x.best = true ↔ j ∈ s'.top :: r)) : s'.G := by
 have hD : ∀ (l : List Nat) (j : Nat), j ∈ l -> True := fun _ _ _ => trivial
 have hp : ∀ {l}, Path s' l -> Path s l := fun h => h.sim sim.symm fun _ _ => trivial
 refine ⟨by rw [hb]; exact g.n, ?_, fun j hj => ?_, ?_, fun j hj => ?_, ?_, fun j x q hx hj hq => ?_, fun j x r hx hr hj => ?_, fun j x hx hj => ?_, by rw [hb]; exact ht, fun j x r hx hj hr => ?_⟩
 . rw [hb, he, g.e]
   exact List.map_congr_left fun j _ => by rw [sim.hd trivial]
 . rw [hb] at hj
   obtain ⟨x, hx⟩ := g.x j hj
   obtain ⟨y, h1, _⟩ := sim.get trivial hx
   exact ⟨y, h1⟩
 . rw [hb, List.map_congr_left (g := fun i => (s.hd i).id) fun j _ => by rw [sim.hd trivial]]
   exact g.u
 . rw [hb] at hj ⊢
   obtain ⟨r, h1, h2⟩ := g.p j hj
   exact ⟨r, h1.sim sim fun _ _ => trivial, h2⟩
 . obtain ⟨r0, h1, h2⟩ := g.r
   refine ⟨r0, by rw [hb]; exact h1, fun j hj => ?_⟩
   rw [hb] at hj
   rw [sim.on trivial]; exact h2 j hj
 . rw [hb] at hj
   obtain ⟨x0, h1, h2, h3, _⟩ := sim.symm.get trivial hx
   rw [<- h2, sim.hd trivial]
   exact g.k j x0 q h1 hj (h3.trans hq)
 . rw [hb] at hj
   obtain ⟨x0, h1, _, _, _, h5⟩ := sim.symm.get trivial hx
   rw [<- h5, g.w j x0 r h1 (hp hr) hj, sim.hds fun _ _ => trivial]
 . rw [hb] at hj
   obtain ⟨x0, h1, h2⟩ := hkids j x hx hj
   rw [h2, g.c j x0 h1 hj, Fst.cnt, Fst.cnt, hb]
   congr 1
   exact List.filter_congr fun k _ => by rw [sim.on trivial]
 . rw [hb] at hj
   exact hbest j x r hx hj (hp hr)
theorem Fst.G.turn {s : Fst} (g : s.G) {i : Nat} {rt rx : List Nat} (ht : Path s (s.top :: rt)) (hx : Path s (i :: rx)) (hi : i ∈ s.bc) : (s.turn (s.top :: rt) (i :: rx) i).G := by
 refine g.sim (turn_sim _ _ _ _) rfl rfl (fun j x hj _ => ?_) hi fun j x r hj hjb hr => ?_
 . obtain ⟨x0, h1, _, _, _, _, h6, _⟩ := turn_nd hj
   exact ⟨x0, h1, h6⟩
 . have : r = rx := Path.uniq hr hx
   subst this
   obtain ⟨x0, h1, _, _, _, _, _, h7⟩ := turn_nd hj
   rw [h7]
   show _ ↔ j ∈ i :: r
   by_cases c1 : j ∈ i :: r
   . rw [if_pos c1]; exact ⟨fun _ => c1, fun _ => rfl⟩
   . rw [if_neg c1]
     refine ⟨fun h => ?_, fun h => absurd h c1⟩
     by_cases c2 : j ∈ s.top :: rt
     . rw [if_pos c2] at h; cases h
     . rw [if_neg c2] at h
       exact absurd ((g.b j x0 rt h1 hjb ht).1 h) c2
theorem FW.turn {V : Tbl} {s : Fst} (h : FW V s) {i : Nat} {lt lx : List Nat} (hi : i < V.length) : FW V (s.turn lt lx i) := by
 have h2 := (h.setB lt false).setB lx true
 exact ⟨h2.i.put _ _ _ i _ _, ⟨h2.r.p, h2.r.h, h2.r.o, hi, h2.r.e, h2.r.b, h2.r.on⟩, h2.v, h2.o, h2.k, h2.n, h2.l⟩
theorem drop_nd {s : Fst} {k p : Nat} {x y : Nd} (j : Nat) : (s.drop k x p y).nd j = if j = p then some { y with kids := y.kids - 1 } else s.nd j := rfl
theorem drop_sim {s : Fst} {k p : Nat} {x y : Nd} (hy : s.nd p = some y) : Sim s (s.drop k x p y) (fun _ => True) := fun j _ => by
 rw [drop_nd]
 by_cases hp : j = p
 . rw [if_pos hp, hp, hy]; rfl
 . rw [if_neg hp]
theorem Fst.leaf_at {s : Fst} {i : Nat} {x : Nd} (hx : s.nd i = some x) (hl : s.leaf i = true) : x.best = false /\ x.kids = 0 := by
 rw [Fst.leaf, hx] at hl
 simp only [Bool.and_eq_true, Bool.not_eq_true', decide_eq_true_eq] at hl
 exact hl
theorem erase_filter {l : List Nat} (hn : l.Nodup) {k i : Nat} (hk : l[k]? = some i) : l.eraseIdx k = l.filter fun j => decide (j ≠ i) := by
 induction l generalizing k with
 | nil => simp at hk
 | cons a r ih =>
   obtain ⟨h1, h2⟩ := List.nodup_cons.1 hn
   cases k with
   | zero =>
     simp only [List.getElem?_cons_zero, Option.some.injEq] at hk
     subst hk
     rw [List.eraseIdx_cons_zero, List.filter_cons, if_neg (by simp)]
     refine (List.filter_eq_self.2 fun j hj => ?_).symm
     have : j ≠ a := fun e => h1 (e ▸ hj)
     simpa using this
   | succ k =>
     simp only [List.getElem?_cons_succ] at hk
     have hai : a ≠ i := fun e => h1 (e ▸ List.mem_of_getElem? hk)
     rw [List.eraseIdx_cons_succ, List.filter_cons, if_pos (by simpa using hai), ih h2 hk]
theorem erase_ents {l : List Nat} (f : Nat -> List UInt8) (hu : (l.map f).Nodup) {k i : Nat} (hk : l[k]? = some i) : (l.map fun j => (f j, j)).filter (fun e => decide (e.1 ≠ f i)) = (l.filter fun j => decide (j ≠ i)).map fun j => (f j, j) := by
 rw [List.filter_map]
 congr 1
 refine List.filter_congr fun j hj => ?_
 show decide (f j ≠ f i) = decide (j ≠ i)
 refine decide_eq_decide.2 ⟨fun h e => h (by rw [e]), fun h e => h ?_⟩
 obtain ⟨a, ha⟩ := List.mem_iff_getElem?.1 hj
 have h1 : (l.map f)[a]? = some (f j) := by rw [List.getElem?_map, ha]; rfl
 have h2 : (l.map f)[k]? = some (f j) := by rw [List.getElem?_map, hk, e]; rfl
 have hak := (List.getElem?_inj (List.getElem?_eq_some_iff.1 h1).1 hu).1 (h1.trans h2.symm)
 rw [hak, hk] at ha
 exact (Option.some.inj ha).symm
theorem Fst.G.drop {s : Fst} (g : s.G) {k i p : Nat} {x y : Nd} (hk : s.bc[k]? = some i) (hx : s.nd i = some x) (hl : s.leaf i = true) (hp : x.on = some p) (hy : s.nd p = some y) : (s.drop k x p y).G := by
 obtain ⟨hx1, hx2⟩ := Fst.leaf_at hx hl
 have hib : i ∈ s.bc := List.mem_of_getElem? hk
 have sim := drop_sim (k := k) (x := x) hy
 have hbc : (s.drop k x p y).bc = s.bc.filter fun j => decide (j ≠ i) := erase_filter g.n hk
 have mem : ∀ j, j ∈ (s.drop k x p y).bc ↔ j ∈ s.bc /\ j ≠ i := fun j => by rw [hbc, List.mem_filter, decide_eq_true_eq]
 have hoi : s.onOf i = some p := by rw [Fst.onOf_at hx, hp]
 have hno : ∀ j ∈ s.bc, s.onOf j ≠ some i := fun j hj e => by
  have h1 := g.c i x hx hib
  rw [hx2] at h1
  have : j ∈ s.bc.filter fun k => decide (s.onOf k = some i) := List.mem_filter.2 ⟨hj, by simpa using e⟩
  rw [List.eq_nil_of_length_eq_zero h1.symm] at this
  cases this
 have hpm : ∀ j ∈ s.bc, j ≠ i -> ∀ r, Path s (j :: r) -> (∀ q ∈ j :: r, q ∈ s.bc) -> ∀ q ∈ j :: r, q ∈ s.bc /\ q ≠ i := by
  intro j hj hji r hr hrb q hq
  refine ⟨hrb q hq, fun e => ?_⟩
  subst e
  rcases List.mem_cons.1 hq with e | hq
  . exact hji e.symm
  . obtain ⟨q', h1, h2⟩ := Path.on hr q hq
    exact hno q' (hrb q' h1) h2
 have hpath : ∀ {l}, Path (s.drop k x p y) l -> Path s l := fun h => h.sim sim.symm fun _ _ => trivial
 have old : ∀ j z, (s.drop k x p y).nd j = some z -> ∃ z0, s.nd j = some z0 /\ z.h = z0.h /\ z.on = z0.on /\ z.wk = z0.wk /\ z.best = z0.best /\ z.kids = z0.kids - (if j = p then 1 else 0) := by
  intro j z hz
  rw [drop_nd] at hz
  by_cases hjp : j = p
  . rw [if_pos hjp] at hz; cases hz
    exact ⟨y, hjp ▸ hy, rfl, rfl, rfl, rfl, by rw [if_pos hjp]⟩
  . rw [if_neg hjp] at hz
    exact ⟨z, hz, rfl, rfl, rfl, rfl, by rw [if_neg hjp]; rfl⟩
 refine ⟨?_, ?_, fun j hj => ?_, ?_, fun j hj => ?_, ?_, fun j z q hz hj hq => ?_, fun j z r hz hr hj => ?_, fun j z hz hj => ?_, ?_, fun j z r hz hj hr => ?_⟩
 . rw [hbc]; exact g.n.filter _
 . have e1 : (s.drop k x p y).es = s.es.filter fun e => decide (e.1 ≠ (s.hd i).id) := by rw [Fst.hd_at hx]; rfl
   rw [e1, hbc, g.e, erase_ents (fun j => (s.hd j).id) g.u hk]
   exact List.map_congr_left fun j _ => by rw [sim.hd trivial]
 . obtain ⟨z, hz⟩ := g.x j ((mem j).1 hj).1
   obtain ⟨w, h1, _⟩ := sim.get trivial hz
   exact ⟨w, h1⟩
 . rw [List.map_congr_left (g := fun j => (s.hd j).id) fun j _ => by rw [sim.hd trivial], hbc]
   exact g.u.sublist (List.Sublist.map _ List.filter_sublist)
 . obtain ⟨h1, h2⟩ := (mem j).1 hj
   obtain ⟨r, h3, h4⟩ := g.p j h1
   exact ⟨r, h3.sim sim fun _ _ => trivial, fun q hq => (mem q).2 (hpm j h1 h2 r h3 h4 q hq)⟩
 . obtain ⟨r0, h1, h2⟩ := g.r
   have h0 : r0 ∈ s.bc := List.mem_of_head? h1
   have hri : r0 ≠ i := fun e => by
    have := (h2 r0 h0).2 rfl
    rw [e, hoi] at this; cases this
   refine ⟨r0, ?_, fun j hj => ?_⟩
   . rw [hbc]
     cases hb : s.bc with
     | nil => rw [hb] at h1; cases h1
     | cons a l =>
       rw [hb] at h1
       simp only [List.head?_cons, Option.some.injEq] at h1
       subst h1
       rw [List.filter_cons, if_pos (by simpa using hri)]; rfl
   . rw [sim.on trivial]; exact h2 j ((mem j).1 hj).1
 . obtain ⟨z0, h1, h2, h3, _⟩ := old j z hz
   rw [h2, sim.hd trivial]
   exact g.k j z0 q h1 ((mem j).1 hj).1 (h3 ▸ hq)
 . obtain ⟨z0, h1, _, _, h4, _⟩ := old j z hz
   rw [h4, g.w j z0 r h1 (hpath hr) ((mem j).1 hj).1, sim.hds fun _ _ => trivial]
 . obtain ⟨z0, h1, _, _, _, _, h6⟩ := old j z hz
   have e0 : (s.drop k x p y).cnt j = (s.bc.filter fun a => decide (s.onOf a = some j) && decide (a ≠ i)).length := by
    rw [Fst.cnt, hbc, List.filter_filter]
    congr 1
    exact List.filter_congr fun a _ => by rw [sim.on trivial]
   rw [h6, g.c j z0 h1 ((mem j).1 hj).1, e0, Fst.cnt]
   have e1 : ∀ l : List Nat, l.Nodup -> i ∈ l -> (l.filter fun a => decide (s.onOf a = some j) && decide (a ≠ i)).length = (l.filter fun a => decide (s.onOf a = some j)).length - (if j = p then 1 else 0) := by
    intro l
    induction l with
    | nil => intro _ h; cases h
    | cons a l ih =>
      intro hn hm
      obtain ⟨n1, n2⟩ := List.nodup_cons.1 hn
      by_cases hai : a = i
      . subst hai
        have e2 : (l.filter fun b => decide (s.onOf b = some j) && decide (b ≠ a)) = l.filter fun b => decide (s.onOf b = some j) :=
         List.filter_congr fun b hb => by
          have : b ≠ a := fun e => n1 (e ▸ hb)
          simp [this]
        rw [List.filter_cons, if_neg (by simp), e2, List.filter_cons, hoi]
        by_cases hjp : j = p
        . subst hjp; simp
        . have : ¬ p = j := fun e => hjp e.symm
          simp [this, hjp]
      . have hm' : i ∈ l := by
         rcases List.mem_cons.1 hm with e | h
         . exact absurd e.symm hai
         . exact h
        have hrec := ih n2 hm'
        rw [List.filter_cons, List.filter_cons]
        by_cases hc : s.onOf a = some j
        . rw [if_pos (by simp [hc, hai]), if_pos (by simp [hc]), List.length_cons, List.length_cons, hrec]
          by_cases hjp : j = p
          . have : i ∈ l.filter fun a => decide (s.onOf a = some j) := List.mem_filter.2 ⟨hm', by rw [hjp]; simpa using hoi⟩
            have := List.length_pos_of_mem this
            rw [if_pos hjp]; omega
          . rw [if_neg hjp]; omega
        . rw [if_neg (by simp [hc]), if_neg (by simp [hc])]; exact hrec
   exact (e1 s.bc g.n hib).symm
 . refine (mem _).2 ⟨g.t, fun e => ?_⟩
   obtain ⟨rt, h1, _⟩ := g.p _ g.t
   have := (g.b i x rt hx hib h1).2 (by rw [<- e]; show s.top ∈ _; simp)
   rw [hx1] at this; cases this
 . obtain ⟨z0, h1, _, _, _, h5, _⟩ := old j z hz
   rw [h5]; exact g.b j z0 r h1 ((mem j).1 hj).1 (hpath hr)
theorem FW.drop {V : Tbl} {s : Fst} (h : FW V s) (g : s.G) {k i p : Nat} {x y : Nd} (hk : s.bc[k]? = some i) (hy : s.nd p = some y) : FW V (s.drop k x p y) := by
 have hb := h.i.b
 have h1 : (s.setN p { y with kids := y.kids - 1 }).In V.length := h.i.setN hy _
 have nd : ∀ j z, (s.drop k x p y).nd j = some z -> ∃ z0, s.nd j = some z0 /\ z.h = z0.h /\ z.on = z0.on := by
  intro j z hz
  rw [drop_nd] at hz
  split at hz
  . rename_i e; cases hz; exact ⟨y, e ▸ hy, rfl, rfl⟩
  . exact ⟨z, hz, rfl, rfl⟩
 refine ⟨h1.put _ _ _ _ _ _, ⟨h.r.p, fun j z hz => ?_, fun q hq => ?_, h.r.t, fun e he => h.r.e e (List.mem_filter.1 he).1, fun j hj => h.r.b j (List.mem_of_mem_eraseIdx hj), fun j z q hz hq => ?_⟩, h.v, ?_, fun e he => h.k e (List.mem_filter.1 he).1, fun j z q hz hq => ?_, ?_⟩
 . obtain ⟨z0, q1, q2, _⟩ := nd j z hz
   rw [q2]; exact h.r.h j z0 q1
 . show AV.wo q (.sl s.b 0 (s.bc.length - 1)) = _
   rw [AV.wo, hq s.b (by omega)]; rfl
 . obtain ⟨z0, q1, _, q3⟩ := nd j z hz
   exact h.r.on j z0 q q1 (q3 ▸ hq)
 . show AV.sl s.b 0 (s.bc.length - 1) = .sl s.b 0 (s.bc.eraseIdx k).length
   rw [List.length_eraseIdx, if_pos (List.getElem?_eq_some_iff.1 hk).1]
 . obtain ⟨z0, q1, _, q3⟩ := nd j z hz
   obtain ⟨w, hw⟩ := h.n j z0 q q1 (q3 ▸ hq)
   rw [drop_nd]
   split
   . exact ⟨_, rfl⟩
   . exact ⟨w, hw⟩
 . show (s.bc.eraseIdx k).length <= _
   have := h.l
   rw [List.length_eraseIdx]; split <;> omega
theorem top_leaf {s : Fst} (g : s.G) {rt : List Nat} (ht : Path s (s.top :: rt)) : ∀ (n : Nat) (i : Nat) (x : Nd), i ∈ s.bc -> s.nd i = some x -> i ∉ s.top :: rt -> s.bc.length <= x.ht + n -> ∃ j ∈ s.bc, s.leaf j = true
 | 0, i, x, hi, hx, hn, hl => by
   obtain ⟨r, h1, h2⟩ := g.p i hi
   obtain ⟨z, q1, q2, _⟩ := h1.head
   rw [hx] at q1; cases q1
   have := h1.len h2
   rw [List.length_cons] at this; omega
 | n + 1, i, x, hi, hx, hn, hl => by
   by_cases hk : x.kids = 0
   . refine ⟨i, hi, ?_⟩
     rw [Fst.leaf, hx]
     have hb : x.best = false := by
      cases hb : x.best with
      | false => rfl
      | true => exact absurd ((g.b i x rt hx hi ht).1 hb) hn
     simp [hb, hk]
   . have hc := g.c i x hx hi
     obtain ⟨j, hj⟩ : ∃ j, j ∈ s.bc.filter fun k => decide (s.onOf k = some i) := by
      cases hf : s.bc.filter fun k => decide (s.onOf k = some i) with
      | nil => rw [Fst.cnt, hf] at hc; exact absurd hc hk
      | cons a l => exact ⟨a, by simp⟩
     obtain ⟨hjb, hjo⟩ := List.mem_filter.1 hj
     simp only [decide_eq_true_eq] at hjo
     obtain ⟨_, r, hjr⟩ := g.on_mem hjb hjo
     obtain ⟨z, q1, q2, q3⟩ := hjr.head
     obtain ⟨z', q1', q2', _⟩ := hjr.2.head
     rw [hx] at q1'; cases q1'
     refine top_leaf g ht n j z hjb q1 (fun hm => hn ?_) (by rw [List.length_cons] at q2; omega)
     obtain ⟨r', m1, m2⟩ := ht.mem j hm
     have := Path.uniq m1 hjr
     subst this
     exact m2.subset (by simp)
theorem Fst.G.leaf {s : Fst} (g : s.G) {z : Nd} (hz : s.nd s.top = some z) (h : z.ht + 1 < s.bc.length) : ∃ k i x p y, s.bc[k]? = some i /\ (∀ (j q : Nat), j < k -> s.bc[j]? = some q -> s.leaf q = false) /\ s.leaf i = true /\ s.nd i = some x /\ x.on = some p /\ s.nd p = some y /\ i ≠ p /\ 1 <= y.kids := by
 obtain ⟨rt, ht, htb⟩ := g.p _ g.t
 obtain ⟨z', q1, q2, _⟩ := ht.head
 rw [hz] at q1; cases q1
 obtain ⟨i, hi, hin⟩ : ∃ i ∈ s.bc, i ∉ s.top :: rt := by
  refine Classical.byContradiction fun hno => ?_
  have : ∀ i ∈ s.bc, i ∈ s.top :: rt := fun i hi => Classical.byContradiction fun hn => hno ⟨i, hi, hn⟩
  have := nodup_len g.n this
  rw [List.length_cons] at this; omega
 obtain ⟨x, hx⟩ := g.x i hi
 obtain ⟨j, hj, hjl⟩ := top_leaf g ht s.bc.length i x hi hx hin (by omega)
 obtain ⟨k, hk⟩ : ∃ k, s.bc.findIdx? s.leaf = some k := by
  cases hf : s.bc.findIdx? s.leaf with
  | some k => exact ⟨k, rfl⟩
  | none =>
    rw [List.findIdx?_eq_none_iff] at hf
    have := hf j hj
    rw [hjl] at this; cases this
 obtain ⟨hkl, h1, h2⟩ := List.findIdx?_eq_some_iff_getElem.1 hk
 obtain ⟨x', hx'⟩ := g.x (s.bc[k]) (List.getElem_mem hkl)
 have hb := (Fst.leaf_at hx' h1).1
 have hnt : s.bc[k] ∉ s.top :: rt := fun hm => by
  have := (g.b _ x' rt hx' (List.getElem_mem hkl) ht).2 hm
  rw [hb] at this; cases this
 obtain ⟨r0, hr0, hr1⟩ := g.r
 have hon : s.onOf s.bc[k] ≠ none := fun e => by
  have e1 := (hr1 _ (List.getElem_mem hkl)).1 e
  obtain ⟨q, m1, m2⟩ := ht.last
  have e2 := (hr1 q (htb q m1)).1 m2
  exact hnt (by rw [e1, <- e2]; exact m1)
 obtain ⟨p, hp⟩ := Option.ne_none_iff_exists'.1 hon
 have hp' : x'.on = some p := by rw [Fst.onOf_at hx'] at hp; exact hp
 obtain ⟨hpb, r, hpr⟩ := g.on_mem (List.getElem_mem hkl) hp
 obtain ⟨y, hy⟩ := g.x p hpb
 refine ⟨k, s.bc[k], x', p, y, by simp [hkl], fun j q hj hq => ?_, h1, hx', hp', hy, fun e => ?_, ?_⟩
 . have hjl := (List.getElem?_eq_some_iff.1 hq)
   have := h2 j hj
   rw [<- hjl.2]
   simpa using this
 . have := hpr.nodup.1
   rw [List.nodup_cons] at this
   exact this.1 (by rw [e]; simp)
 . rw [g.c p y hy hpb]
   exact List.length_pos_of_mem (List.mem_filter.2 ⟨List.getElem_mem hkl, by simpa using hp⟩)
end Go.Proofs.YtfpjalgfnjjcmaaGreatDoor
namespace Go.Proofs.YtfpjalgfnjjcmaaGreatDoor
open Go.E Go.Proofs.YtfpjalgfnjjcmaaGreatDoor.Tryz Go.Proofs.Tryz
theorem FT_tail {V : Tbl} {s : Fst} (h : s.In V.length) (l : Tbl) : FT V s ++ l = FT (V ++ l) s := by
 refine List.ext_getElem? fun i => ?_
 rw [FT_at]
 by_cases hi : i < V.length
 . rw [List.getElem?_append_left (by rw [FT_len]; exact hi), FT_at, List.getElem?_append_left hi]
 . rw [List.getElem?_append_right (by rw [FT_len]; omega), FT_len, List.getElem?_append_right (by omega)]
   have hf := h.f
   have hm := h.m
   have hb := h.b
   have hn : s.nd i = none := by
    cases hx : s.nd i with
    | none => rfl
    | some x => have := h.nn i x hx; omega
   cases l[i - V.length]? with
   | none => rfl
   | some o => simp only [Option.map_some, Fst.ob, hn]; rw [if_neg (by omega), if_neg (by omega), if_neg (by omega)]
theorem FT_new {V : Tbl} {s : Fst} (h : s.In V.length) (x : Nd) (l : Tbl) : FT V s ++ (.cells 75 x.cs :: l) = FT (V ++ [.gone]) (s.setN V.length x) ++ l := by
 have hf := h.f
 have hm := h.m
 have hb := h.b
 refine List.ext_getElem? fun i => ?_
 by_cases hi : i < V.length
 . rw [List.getElem?_append_left (by rw [FT_len]; exact hi), List.getElem?_append_left (by rw [FT_len, List.length_append]; simp; omega), FT_at, FT_at, List.getElem?_append_left hi]
   have : i ≠ V.length := by omega
   congr 1
   funext o
   show s.ob i o = (s.setN V.length x).ob i o
   simp only [Fst.ob, Fst.setN, Fst.cs, this, if_false]
 . by_cases hi2 : i = V.length
   . subst hi2
     rw [List.getElem?_append_right (by rw [FT_len]; exact Nat.le_refl _), FT_len, Nat.sub_self, List.getElem?_append_left (by rw [FT_len, List.length_append]; simp), FT_at, List.getElem?_append_right (Nat.le_refl _), Nat.sub_self]
     simp only [List.getElem?_cons_zero, Option.map_some, Fst.ob, Fst.setN, if_true]
     rw [if_neg (by omega), if_neg (by omega), if_neg (by omega)]
   . rw [List.getElem?_append_right (by rw [FT_len]; omega), List.getElem?_append_right (by rw [FT_len, List.length_append]; simp; omega), FT_len, FT_len, List.length_append, show i - V.length = (i - (V.length + 1)) + 1 by omega, List.getElem?_cons_succ]; rfl
structure Tl (n b : Nat) (l : Tbl) : Prop where
 wo : ∀ q : Nat -> Bool, (∀ i, i < n + l.length -> q i = false) -> l.map (AObj.wo q) = l
 b : l.map (AObj.wo (· == b)) = l
theorem Vok.app {V : Tbl} {b : Nat} (h : Vok V b) {l : Tbl} (hl : Tl V.length b l) : Vok (V ++ l) b :=
 ⟨fun q hq => by
  rw [List.length_append] at hq
  rw [List.map_append, h.wo q fun i hi => hq i (by omega), hl.wo q hq], by rw [List.map_append, h.b, hl.b]⟩
theorem Fst.Ref.mono {s : Fst} {n m : Nat} (h : s.Ref n) (hm : n <= m) : s.Ref m :=
 ⟨h.p, h.h, fun q hq => h.o q fun i hi => hq i (by omega), by have := h.t; omega, fun x hx => by have := h.e x hx; omega, fun i hi => by have := h.b i hi; omega, fun i x j hi hj => by have := h.on i x j hi hj; omega⟩
theorem FW.app {V : Tbl} {s : Fst} (h : FW V s) {l : Tbl} (hl : Tl V.length s.b l) : FW (V ++ l) s :=
 ⟨h.i.mono (by simp), h.r.mono (by simp), h.v.app hl, h.o, h.k, h.n, h.l⟩
def FE (n b : Nat) : Eff := (b, true) :: EF n
theorem FE_mem {n b i : Nat} {t : Bool} : (i, t) ∈ FE n b ↔ (i = b /\ t = true) ∨ (i < n /\ t = false) := by
 simp only [FE, List.mem_cons, Prod.mk.injEq, EF_mem]
structure IdL (a : AV) (l : List (List UInt8)) : Prop where
 es : ∀ T, Es T 32 (fun x => x.map by8) a l
 l : ∀ x ∈ l, x.length = 32
 wo : ∀ q, a.wo q = a
 pub : ∀ i cs, a.pub i cs = a
theorem IdL.nil : IdL (.p (.slice none 0 0)) [] := ⟨fun _ => Es.nil, by simp, fun _ => by rw [AV.wo], fun _ _ => by rw [AV.pub]⟩
theorem IdL.vs {l : List (List UInt8)} (h : ∀ x ∈ l, x.length = 32) : IdL (.vs (l.flatMap fun x => x.map by8) l.length) l :=
 ⟨fun _ => Es.vs fun x hx => by rw [List.length_map, h x hx], h, fun _ => by rw [AV.wo], fun _ _ => by rw [AV.pub]⟩
open Classical in
theorem mset_new {es : List (Value × AV)} {k : Value} (h : mfind es k = none) (a x : AV) : mset (mset es k a) k x = es ++ [(k, x)] := by
 have h0 : mset es k a = es ++ [(k, a)] := by unfold mset; rw [h]
 have hne : ∀ e ∈ es, ¬ e.1 = k := by
  unfold mfind at h
  rw [Option.map_eq_none_iff, List.find?_eq_none] at h
  intro e he
  simpa using h e he
 have h1 : mfind (es ++ [(k, a)]) k = some a := by
  unfold mfind at h ⊢
  rw [Option.map_eq_none_iff] at h
  rw [List.find?_append, h]
  simp
 rw [h0]
 unfold mset
 rw [h1]
 simp only [List.map_append, List.map_cons, List.map_nil, if_true]
 congr 1
 refine (List.map_congr_left fun e he => ?_).trans (List.map_id es)
 rw [if_neg (hne e he)]; rfl
def bN (h i t : List AV) : List AV := h ++ (i ++ t)
def tzN : List AV := [.p (.pointer none), wint 0, .p (.int .u64 0), .p (.int .u64 0), .p (.int .u64 0), .p (.int .u64 0), wint 0, .p (.bool false)]
theorem ezN : [oW, oB, oB, oB, oB, oB, oB, oB, oB, oB, oB, oB, oB, oB, oB, oB, oB, oB, oB, oB, oB, oB, oB, oB, oB, oB, oB, oB, oB, oB, oB, oB, oB, oB, oB, oB, oB, oB, oB, oB, oB, oB, oB, oB, oB, oB, oB, oB, oB, oB, oB, oB, oB, oB, oB, oB, oB, oB, oB, oB, oB, oB, oB, oB, oB, oW, oW, oW, oB, oB, oB, oB, oB, oB, oB, oB, oB, oB, oB, oB, oB, oB, oB, oB, oB, oB, oB, oB, oB, oB, oB, oB, oB, oB, oB, oB, oB, oB, oB, oB, AV.p (Value.pointer none), oI, oQ, oQ, oQ, oQ, oI, AV.p (Value.bool false)] = bN z68 z32 tzN := rfl
theorem bN_rules : (bN z68 z32 tzN).length = 108 /\ (∀ h : Hdr, h.Ok -> wrA (bN z68 z32 tzN) 0 h.cs = bN h.cs z32 tzN) /\ (∀ h : Hdr, h.Ok -> (bN h.cs z32 tzN).length = 108) /\
 (∀ h : Hdr, h.Ok -> ∀ l : List UInt8, l.length = 32 -> wrA (bN h.cs z32 tzN) 68 (l.map by8) = bN h.cs (l.map by8) tzN) /\ (∀ h : Hdr, h.Ok -> ∀ l : List UInt8, l.length = 32 -> ∀ t, t.length = 8 -> (bN h.cs (l.map by8) t).length = 108) /\
 (∀ h : Hdr, h.Ok -> ∀ l : List UInt8, l.length = 32 -> ∀ t a, (bN h.cs (l.map by8) t).set 100 a = bN h.cs (l.map by8) (t.set 0 a)) /\ (∀ h : Hdr, h.Ok -> ∀ l : List UInt8, l.length = 32 -> ∀ t a, (bN h.cs (l.map by8) t).set 101 a = bN h.cs (l.map by8) (t.set 1 a)) := by
 refine ⟨rfl, fun h ok => ?_, fun h ok => ?_, fun h ok l hl => ?_, fun h ok l hl t ht => ?_, fun h ok l hl t a => ?_, fun h ok l hl t a => ?_⟩
 . have h1 := Hdr.cs_len ok
   rw [wrA_eq (by rw [h1]; decide), h1]; rfl
 . have h1 := Hdr.cs_len ok
   rw [bN, List.length_append, h1]; rfl
 . have h1 := Hdr.cs_len ok
   have h2 : (l.map by8).length = 32 := by simp [hl]
   have h3 : (bN h.cs z32 tzN).length = 108 := by rw [bN, List.length_append, h1]; rfl
   rw [wrA_eq (by rw [h2, h3]; decide), h2, bN, bN, <- h1, List.take_left, show h.cs.length + 32 = h.cs.length + 32 from rfl, List.append_assoc]
   congr 1
   rw [<- List.drop_drop, List.drop_left]; rfl
 . have h1 := Hdr.cs_len ok
   rw [bN, List.length_append, List.length_append, h1, List.length_map, hl, ht]
 . have h1 := Hdr.cs_len ok
   rw [bN, List.set_append_right _ _ (by omega), List.set_append_right _ _ (by rw [List.length_map]; omega), h1, List.length_map, hl]; rfl
 . have h1 := Hdr.cs_len ok
   rw [bN, List.set_append_right _ _ (by omega), List.set_append_right _ _ (by rw [List.length_map]; omega), h1, List.length_map, hl]; rfl
def AddK (V : Tbl) (s : Fst) (hd : Hdr) (v : AV) (T' : Tbl) (es : Eff) : Prop :=
 ∃ s' ht gone e l a, AddR V.length s hd s' ht gone e /\ s'.G /\ IdL a gone /\ FW (V ++ l) s' /\ (∃ k, l = List.replicate k .gone) /\ s'.b = s.b /\ s'.f = s.f /\ v = .tu [wint (ht : Int), a, .p (.int .i64 e)] /\ T' = FT (V ++ l) s' /\ es = FE V.length s.b
structure AddM (V : Tbl) (s : Fst) (hd : Hdr) (s7 : Fst) (ht : Nat) : Prop where
 g : s7.G
 w : FW (V ++ [.gone]) s7
 f : s7.f = s.f
 b : s7.b = s.b
 r : s7.room = s.room
 x : ∃ x, s7.nd V.length = some x /\ x.ht = ht
 l : s7.bc.length <= s.bc.length + 1
 k : ∀ l s', Drops s7 l s' -> AddR V.length s hd s' ht l 0
def box4 (s : Fst) (hd : Hdr) (a : AV) : Tbl := [AObj.cells 32 [AV.ptr s.f 0], AObj.cells 28 hd.cs, AObj.cells 40 [a], AObj.cells 26 (List.map by8 hd.id)]
def bx5 (s : Fst) (hd : Hdr) (n : Nat) (gs : List (List UInt8)) (M : Tbl) : Tbl := AObj.cells 32 [AV.ptr s.f 0] :: AObj.cells 28 hd.cs :: AObj.cells 40 [AV.sl (n + 4) 0 gs.length] :: AObj.cells 26 (List.map by8 hd.id) :: AObj.buf 26 32 (gs.flatMap fun x => x.map by8) :: M
def mks (s : Fst) : Nat -> Tbl
 | 0 => []
 | k + 1 => mks s k ++ [AObj.cells 32 [AV.ptr s.f 0], .raw (.deferred (some []))]
def dsM (n : Nat) : Nat -> List AV
 | 0 => []
 | k + 1 => .ptr (n + (2 * k + 6)) 0 :: dsM n k
theorem mks_len (s : Fst) : ∀ k, (mks s k).length = 2 * k
 | 0 => rfl
 | k + 1 => by rw [mks, List.length_append, mks_len s k]; simp; omega
theorem mks_wo {s : Fst} {q : Nat -> Bool} (h : q s.f = false) : ∀ k, (mks s k).map (AObj.wo q) = mks s k
 | 0 => rfl
 | k + 1 => by
   rw [mks, List.map_append, mks_wo h k]
   simp only [List.map_cons, List.map_nil, AObj.wo, AV.wo, h, Bool.false_eq_true, if_false]
theorem dsM_wo (n : Nat) {q : Nat -> Bool} : ∀ k, (∀ j, j < k -> q (n + (2 * j + 6)) = false) -> (dsM n k).map (AV.wo q) = dsM n k
 | 0, _ => rfl
 | k + 1, h => by
   rw [dsM, List.map_cons, dsM_wo n k fun i hi => h i (by omega), AV.wo, h k (by omega)]; rfl
theorem dsM_mem {n : Nat} : ∀ {k : Nat} {a : AV}, a ∈ dsM n k -> ∃ j, j < k /\ a = .ptr (n + (2 * j + 6)) 0
 | k + 1, a, h => by
   rcases List.mem_cons.1 h with rfl | h
   . exact ⟨k, by omega, rfl⟩
   . obtain ⟨j, hj, e⟩ := dsM_mem h
     exact ⟨j, by omega, e⟩
theorem dsM_nodup (n : Nat) : ∀ k, (dsM n k).Nodup
 | 0 => List.nodup_nil
 | k + 1 => List.nodup_cons.2 ⟨fun h => by
   obtain ⟨j, hj, e⟩ := dsM_mem h
   simp only [AV.ptr.injEq, and_true] at e; omega, dsM_nodup n k⟩
theorem mks_get (s : Fst) : ∀ {k j : Nat}, j < k -> (mks s k)[2 * j + 1]? = some (.raw (.deferred (some [])))
 | k + 1, j, h => by
   rw [mks]
   by_cases hj : j = k
   . rw [hj, List.getElem?_append_right (by rw [mks_len]; omega), mks_len, show 2 * k + 1 - 2 * k = 1 by omega]; rfl
   . rw [List.getElem?_append_left (by rw [mks_len]; omega)]
     exact mks_get s (by omega)
theorem ids_wo (q : Nat -> Bool) (gs : List (List UInt8)) : (gs.flatMap fun x => x.map by8).map (AV.wo q) = gs.flatMap fun x => x.map by8 := by
 rw [List.map_flatMap]; congr 1; funext x; exact wb8 q x
theorem bx5_len (s : Fst) (hd : Hdr) (n : Nat) (gs : List (List UInt8)) (k : Nat) : (bx5 s hd n gs (mks s k)).length = 2 * k + 5 := by rw [bx5]; simp [mks_len]
theorem bx5_tl {n : Nat} {s : Fst} {hd : Hdr} (ok : hd.Ok) (h1 : s.f < n) (h2 : s.b < n) (h3 : s.f ≠ s.b) (gs : List (List UInt8)) (k : Nat) : Tl n s.b (bx5 s hd n gs (mks s k)) := by
 have hhw := (Hdr.rules ok).2.2.2.2.2.2.2.2.2.1
 refine ⟨fun q hq => ?_, ?_⟩
 . have q1 := hq s.f (by omega)
   have q2 := hq (n + 4) (by rw [bx5]; simp)
   simp only [bx5, List.map_cons, AObj.wo, AV.wo, hhw, wb8, ids_wo, q1, q2, mks_wo q1 k, List.map_nil, Bool.false_eq_true, if_false]
 . have q2 : (n + 4 == s.b) = false := by simp; omega
   have bf : (s.f == s.b) = false := by simpa using h3
   simp only [bx5, List.map_cons, AObj.wo, AV.wo, hhw, wb8, ids_wo, bf, q2, mks_wo (q := (· == s.b)) bf k, List.map_nil, Bool.false_eq_true, if_false]
structure AddL (V : Tbl) (s : Fst) (hd : Hdr) (ht : Nat) (s8 : Fst) (gs : List (List UInt8)) : Prop where
 g : s8.G
 w : FW (V ++ [.gone]) s8
 f : s8.f = s.f
 b : s8.b = s.b
 r : s8.room = s.room
 x : ∃ x, s8.nd V.length = some x /\ x.ht = ht
 l : s8.bc.length + gs.length <= s.bc.length + 1
 i : ∀ x ∈ gs, x.length = 32
 k : ∀ l s', Drops s8 l s' -> AddR V.length s hd s' ht (gs ++ l) 0
theorem AddM.first {V : Tbl} {s s7 : Fst} {hd : Hdr} {ht : Nat} (h : AddM V s hd s7 ht) : AddL V s hd ht s7 [] := ⟨h.g, h.w, h.f, h.b, h.r, h.x, by have := h.l; simp; omega, by simp, h.k⟩
theorem AddK.same {V : Tbl} {s : Fst} {hd : Hdr} (h : FW V s) (g : s.G) {ht : Nat} {e : Int} (hr : AddR V.length s hd s ht [] e) {l : Tbl} {a b c : AV} (ha : a = wint (ht : Int)) (hb : b = .p (.slice none 0 0)) (hc : c = .p (.int .i64 e)) (hl : ∀ T : Tbl, T = FT V s ++ l -> (FT V s).length = V.length) : Vw G (FT V s) (AddK V s hd) (.tu [a, b, c]) (FT V s ++ l) [] := by
 subst ha; subst hb; subst hc
 refine Vw.eff (E' := FE V.length s.b) (by simp) (Vw.cut ?_)
 refine ⟨s, ht, [], e, [], .p (.slice none 0 0), hr, g, IdL.nil, by rw [List.append_nil]; exact h, ⟨0, rfl⟩, rfl, rfl, ?_, by rw [List.append_nil], rfl⟩
 simp only [AV.wo, AV.woL, wint]
theorem fadd_ok {V : Tbl} {s : Fst} (h : FW V s) (g : s.G) {hd : Hdr} (ok : hd.Ok) (hroom : 1 <= s.room) (hlen : s.bc.length <= 50000) :
 CallA prog G 11 [.ptr s.f 0, .ag hd.cs] (FT V s) (AddK V s hd) := by
 have hf := Fst.rules h.r.p
 have hi := h.i.rules
 have wt := h.r.t' h.i h.v
 have hr := Hdr.rules ok
 have hko := mapKO_ent h.k hd.id_len
 have hko2 := mapKO_ent h.k ok.p
 have hmf : mfind (s.es.map ent) (hv hd.id) = (s.look hd.id).map fun i => .ptr i 0 := mfind_ent _ _
 have hmf2 : mfind (s.es.map ent) (hv hd.prev) = (s.look hd.prev).map fun i => .ptr i 0 := mfind_ent _ _
 have hfl := flat8 hd.id
 have hfl2 := flat8 hd.prev
 have h32 : List.take 32 (List.drop 0 hd.id) = hd.id := by rw [List.drop_zero, List.take_of_length_le (by rw [hd.id_len]; exact Nat.le_refl _)]
 have h32b : List.take 32 hd.prev = hd.prev := List.take_of_length_le (by rw [ok.p]; exact Nat.le_refl _)
 have hid := hd.id_len
 obtain ⟨V', hV'⟩ : ∃ V', V' = V ++ [AObj.gone] := ⟨_, rfl⟩
 have hVl : V'.length = V.length + 1 := by rw [hV', List.length_append]; rfl
 refine CallA.enterM 122 func11 ntmps11 (congrArg Array.toList results11) rfl ⟨by simp, by simp⟩ (by kernel_rfl) ?_
 refine SemA.cutK (V'.length + 4) [] (fun t : Fst × Nat => [(2, .ptr V'.length 0), (3, .ptr (V'.length + 1) 0), (5, .ptr (V'.length + 2) 0), (7, .ptr (V'.length + 3) 0), (11, .ptr V.length 0)]) (fun t => FT V' t.1 ++ box4 s hd (.p (.slice none 0 0))) (fun t => AddM V s hd t.1 t.2) (FE V.length s.b) (by rw [FT_len]; omega) 12 rfl (by kernel_rfl) ?_ ?_
 rotate_left
 . rintro ⟨s7, ht⟩ gg tmp hM
   dsimp only at hM ⊢
   have hh4 : V'.length = V.length + 1 := hVl
   unfold box4
   refine tqey @vft ?_
   refine SemA.adoptC (i := V'.length + 2) (k := 0) 26 32 (by decide) (by omega) (vft.2.2.2.1 _ _ _ _ _ _) rfl ?_
   refine tqey @vft ?_
   refine SemA.o ?_
   refine tqey @vft ?_
   refine SemA.loopD (fun t : Fst × List (List UInt8) => V'.length + (2 * t.2.length + 5)) (fun t => dsM V'.length t.2.length) (fun t => [(2, .ptr V'.length 0), (5, .ptr (V'.length + 2) 0), (11, .ptr V.length 0)]) (fun t => FT V' t.1 ++ bx5 s hd V'.length t.2 (mks s t.2.length)) (fun t => AddL V s hd ht t.1 t.2) (fun t => t.1.bc.length) (s7, []) (FE V.length s.b) 0 (fun t : Fst × List (List UInt8) => V'.length + (2 * t.2.length + 5)) (fun t => dsM V'.length t.2.length) (fun t => [(2, .ptr V'.length 0), (5, .ptr (V'.length + 2) 0), (11, .ptr V.length 0)]) (fun t => FT V' t.1 ++ bx5 s hd V'.length t.2 (mks s t.2.length)) (fun t => AddL V s hd ht t.1 t.2 /\ Drops t.1 [] t.1) hM.first rfl ⟨rfl, rfl, rfl, rfl⟩ rfl (fun _ h => h) ?_ ?_
   . rintro ⟨s8, gs⟩ g hL
     dsimp only at hL
     have W8 : FW V' s8 := hV' ▸ hL.w
     have hi8 := W8.i.rules
     rw [hL.f, hL.b] at hi8
     have c8 := Fst.rules W8.r.p
     obtain ⟨z8, hz8⟩ := hL.g.x _ hL.g.t
     obtain ⟨r8, hr8, hr8b⟩ := hL.g.p _ hL.g.t
     have hz8h : z8.ht = r8.length /\ r8.length + 1 <= s8.bc.length := by
      obtain ⟨x, q1, q2, q3⟩ := hr8.head
      rw [hz8] at q1; cases q1
      exact ⟨q2, hr8.len hr8b⟩
     have hbl8 := hL.l
     obtain ⟨M, hMM⟩ : ∃ M, M = mks s gs.length := ⟨_, rfl⟩
     have hMl : M.length = 2 * gs.length := by rw [hMM, mks_len]
     have hMw : ∀ q : Nat -> Bool, q s.f = false -> M.map (AObj.wo q) = M := fun q hq => by rw [hMM]; exact mks_wo hq _
     have hfl' := h.i.f
     have hbl' := h.i.b
     have bf : (s.f == s.b) = false := by simpa using h.i.fb
     have hhw := hr.2.2.2.2.2.2.2.2.2.1
     have tl : Tl V'.length s.b (bx5 s hd V'.length gs M) := by rw [hMM]; exact bx5_tl ok (by omega) (by omega) h.i.fb gs _
     have hfo := forks_ok (W8.app (hL.b ▸ tl)) hz8 (by omega)
     rw [hL.f, <- FT_tail W8.i] at hfo
     rw [<- hMM]
     refine SemA.o ?_
     unfold bx5 at hfo ⊢
     refine tqey @vft ?_
     refine SemA.draw (fun i => true) [(0, true), (2, true), (3, true), (4, true), (5, true), (1, false), (6, true)] mixed (by kernel_rfl) ?_
     refine tqey (cj4 @vft @kallT @hi8 @c8) ?_
     refine hfo.det' ?_
     refine tqey (cj4 @vft @kallT @hi8 @c8) ?_
     by_cases hc : z8.ht + 1 + s8.room < s8.bc.length
     . have i1 := decide_eq_true (show (s8.room : Int) < (s8.bc.length : Int) - (z8.ht : Int) - 1 by omega)
       refine tqey (cj5 @vft @kallT @hi8 @c8 @i1) ?_
       have hfl8 : s8.f < V'.length := by rw [hL.f]; omega
       have hlv := leaves_ok (V := V') (s := s8) (bx5 s hd V'.length gs M) hfl8
       have hbl5 : (bx5 s hd V'.length gs M).length = 2 * gs.length + 5 := by rw [bx5]; simp [hMl]
       rw [hL.f, hbl5] at hlv
       unfold bx5 at hlv
       refine hlv.det' ?_
       obtain ⟨k0, i0, x0, p0, y0, hk0, hk1, hlf0, hx0, hp0, hy0, hip0, hyk0⟩ := hL.g.leaf hz8 (by omega)
       refine tqey (cj3 @vft @hi8 @c8) ?_
       have hxs : s8.bc.filter s8.leaf = i0 :: (s8.bc.drop (k0 + 1)).filter s8.leaf := by
        have hk0l := (List.getElem?_eq_some_iff.1 hk0).1
        have e1 : s8.bc = s8.bc.take k0 ++ i0 :: s8.bc.drop (k0 + 1) := by
         have := List.take_append_drop k0 s8.bc
         rw [List.drop_eq_getElem_cons hk0l] at this
         rw [List.getElem?_eq_getElem hk0l] at hk0
         rw [Option.some.inj hk0] at this
         exact this.symm
        have e2 : (s8.bc.take k0).filter s8.leaf = [] := by
         rw [List.filter_eq_nil_iff]
         intro q hq
         obtain ⟨j, hj⟩ := List.mem_iff_getElem?.1 hq
         have hjl := (List.getElem?_eq_some_iff.1 hj).1
         rw [List.length_take] at hjl
         rw [List.getElem?_take_of_lt (by omega)] at hj
         rw [hk1 j q (by omega) hj]; simp
        conv => lhs; rw [e1]
        rw [List.filter_append, e2, List.nil_append, List.filter_cons, if_pos hlf0]
       obtain ⟨K, hK⟩ : ∃ K, K = V'.length + (2 * gs.length + 5) := ⟨_, rfl⟩
       have hbox : ∀ l, (FT V' s8 ++ (bx5 s hd V'.length gs M ++ [AObj.cells 32 [AV.ptr s.f 0]]) ++ l)[K]? = some (.cells 32 [.ptr s8.f 0]) := fun l => by
        rw [List.append_assoc, List.append_assoc, List.getElem?_append_right (by rw [FT_len]; omega), FT_len, List.getElem?_append_right (by rw [hbl5]; omega), hbl5, show K - V'.length - (2 * gs.length + 5) = 0 by omega, hL.f]; rfl
       rw [<- hK]
       obtain ⟨x0i, hx0i⟩ : ∃ l, l = (gs ++ [x0.h.id]) := ⟨_, rfl⟩
       refine SemA.range (g := 82) (cs := [.ptr K 0]) (A := fun i => [.ptr i 0]) (xs := s8.bc.filter s8.leaf) (K + 1) [(2, .ptr V'.length 0), (5, .ptr (V'.length + 2) 0), (11, .ptr V.length 0)] ((V'.length + 4, true) :: EF (K + 3)) (fun _ (_ : Unit) => FT V' s8 ++ (bx5 s hd V'.length gs M ++ [AObj.cells 32 [AV.ptr s.f 0]])) (fun pre _ => pre = []) (fun _ _ _ => FT V' (s8.drop k0 x0 p0 y0) ++ (bx5 s hd V'.length x0i M ++ [AObj.cells 32 [AV.ptr s.f 0]])) (fun c _ _ => c = .exit 2) () (by (simp -dsimp +decide only [vrm, vt2, vy, vz, vze, v1q, ↓reduceIte, Nat.reduceSub, Nat.reduceAdd, Nat.reduceMul, Nat.reduceLT, Int.reduceAdd, Int.reduceSub, Int.reduceToNat, ci])) (by (simp -dsimp +decide only [vrm, vt2, vy, vz, vze, v1q, ↓reduceIte, Nat.reduceSub, Nat.reduceAdd, Nat.reduceMul, Nat.reduceLT, Int.reduceAdd, Int.reduceSub, Int.reduceToNat, ci])) (by kernel_rfl) (fun _ => rfl) ⟨rfl, rfl, rfl, rfl⟩ rfl rfl (by omega) (fun _ _ _ => by rw [List.length_append, List.length_append, FT_len, hbl5]; simp; omega) (fun _ _ _ _ => by rw [List.length_append, List.length_append, FT_len, bx5]; simp [hMl]; omega) ?_ (One fun T => ∃ l, T = FT V' s8 ++ l /\ T[K]? = some (.cells 32 [.ptr s8.f 0])) (liter_ok W8.i W8.o W8.r.p rfl (by omega) ?_) ?_ ?_ ?_ ?_ ?_
       . refine ⟨?_, ?_, List.mem_cons_of_mem _ (EF_mem.2 ⟨by omega, rfl⟩)⟩
         . rw [moved, EF_moved, decide_eq_false (by omega)]; rfl
         . rw [moved, EF_moved, decide_eq_false (by omega)]; rfl
       . intro j hj
         obtain ⟨x, hx⟩ := hL.g.x j hj
         refine ⟨x, hx, W8.r.h j x hx, ?_⟩
         rw [hL.g.c j x hx hj]
         exact Nat.le_trans (List.length_filter_le _ _) (by omega)
       . rintro o2 lv pre T ⟨z, hz, rfl⟩
         exact ⟨hz, _, List.append_assoc _ _ _, hbox _⟩
       . rintro l o1 o2 lv pre x z hpx rfl
         obtain rfl : x = i0 := by
          rw [hxs, List.nil_append] at hpx
          obtain ⟨q, hq⟩ := hpx
          injection hq
         unfold recA
         simp -dsimp +decide (disch := omega) only [vrm, vt2, vy, vz, vze, v1q, ↓reduceIte, Nat.reduceSub, Nat.reduceAdd, Nat.reduceMul, Nat.reduceLT, Int.reduceAdd, Int.reduceSub, Int.reduceToNat, v4q, putsA, List.zip_cons_cons, List.zip_nil_left, List.zip_nil_right]
         refine ⟨[], rfl, fun o3 => ?_⟩
         have W8n := W8.i.nrules hx0
         have hx0r := Nd.rules (W8.r.h _ _ hx0)
         have hkp : decide (V'.length + 2 ≠ V'.length + 4) = true := decide_eq_true (by omega)
         have hkq : decide (V'.length + 4 ≠ V'.length + 4) = false := decide_eq_false fun e => e rfl
         have hki : decide (x ≠ V'.length + 4) = true := decide_eq_true (by have := W8.i.nn _ _ hx0; omega)
         have hidl : (List.map by8 x0.h.id).length = 32 := by rw [List.length_map, x0.h.id_len]
         have hgfl : (gs.flatMap fun x => x.map by8).length = gs.length * 32 := flat_len fun x hx => by rw [List.length_map, hL.i x hx]
         have wt8 := W8.r.t' W8.i W8.v
         have hsf4 : (s.f == V'.length + 4) = false := by simp; omega
         have hx4 : (x == V'.length + 4) = false := by have := W8.i.nn _ _ hx0; simp; omega
         have hVn4 : (V.length == V'.length + 4) = false := by simp; omega
         have hMw4 := hMw (· == V'.length + 4) hsf4
         have hid0 := x0.h.id_len
         have hgM : ∀ (c0 c1 c2 c3 c4 a b c d : AObj), (FT V' s8 ++ c0 :: c1 :: c2 :: c3 :: c4 :: (M ++ [a, b, c, d]))[V'.length + (M.length + 8)]? = some d := fun c0 c1 c2 c3 c4 a b c d => by
          rw [List.getElem?_append_right (by rw [FT_len]; omega), FT_len, show V'.length + (M.length + 8) - V'.length = (M.length + 3) + 1 + 1 + 1 + 1 + 1 by omega]
          simp only [List.getElem?_cons_succ]
          rw [List.getElem?_append_right (by omega), show M.length + 3 - M.length = 3 by omega]; rfl
         have h32x : List.take 32 (List.drop 0 x0.h.id) = x0.h.id := by rw [List.drop_zero, List.take_of_length_le (by omega)]
         have hgn : (gs.flatMap fun x => x.map by8) ++ List.map by8 x0.h.id = x0i.flatMap fun x => x.map by8 := by rw [hx0i, List.flatMap_append]; simp
         have hx0l : gs.length + 1 = x0i.length := by rw [hx0i]; simp
         have W9 : FW V' (s8.drop k0 x0 p0 y0) := W8.drop hL.g hk0 hy0
         have hkf : ∀ j, j < k0 -> s8.bc[j]? ≠ some x := fun j hj e => by
          have := hk1 j x hj e
          rw [hlf0] at this; cases this
         have hyk : y0.kids <= 1000000 := by
          obtain ⟨r1, q1, q2⟩ := hL.g.p x (List.mem_of_getElem? hk0)
          have hp0b : p0 ∈ s8.bc := by
           cases r1 with
           | nil => obtain ⟨w, a1, a2, a3⟩ := q1; rw [hx0] at a1; cases a1; rw [hp0] at a2; cases a2
           | cons j r1 =>
             obtain ⟨⟨w, a1, a2, a3⟩, a4⟩ := q1
             rw [hx0] at a1; cases a1; rw [hp0] at a2; cases a2
             exact q2 _ (by simp)
          rw [hL.g.c p0 y0 hy0 hp0b]
          exact Nat.le_trans (List.length_filter_le _ _) (by omega)
         have hdrop : ∀ l, Tl V'.length s.b l -> CallA prog G 42 [.ptr s.f 0, .ptr x 0] (FT V' s8 ++ l) fun v T' es => v = .tu [] /\ T' = FT V' (s8.drop k0 x0 p0 y0) ++ l /\ es = EF (V' ++ l).length := fun l hl => by
          have := drop_ok (W8.app (hL.b ▸ hl)) (fun j hj => hL.g.x j hj) (k := k0) hx0 hp0 hip0 hy0 hyk0 hyk hk0 hkf
          rw [hL.f, <- FT_tail W8.i, <- FT_tail W9.i] at this
          exact this
         unfold bx5
         refine tqey @vft ?_
         refine SemA.draw (fun i => decide (i ≠ V'.length + 4)) [(0, true), (1, true), (2, true), (3, true), (4, true), (5, false), (6, false), (7, false)] mixed (by kernel_rfl) ?_
         simp -dsimp +decide (disch := omega) only [vrm, vt2, vy, vz, vze, v1q, ↓reduceIte, Nat.reduceSub, Nat.reduceAdd, Nat.reduceMul, Nat.reduceLT, Int.reduceAdd, Int.reduceSub, Int.reduceToNat, v4q, vft, keepT_get, keepO, hkp, hkq, hki, W8n, hx0r, Option.map_some, List.cons_append, ez32, rep1, vh, hidl, x0.h.id_len, hgfl, wt8, hhw, hMw4, hsf4, hx4, hVn4, ids_wo, wb8, hid0, hgM, h32x, hgn, hx0l]
         refine ⟨⟨by omega, by omega⟩, (hdrop _ ?_).det' ?_⟩
         . refine ⟨fun q hq => ?_, ?_⟩
           . have q1 := hq s.f (by omega)
             have q2 := hq (V'.length + 4) (by simp)
             have q3 := hq (V'.length + 2) (by simp)
             have q4 := hq V.length (by omega)
             have q5 := hq V'.length (by simp)
             simp only [List.map_cons, List.map_nil, List.map_append, AObj.wo, AV.wo, hhw, wb8, ids_wo, q1, q2, q3, q4, q5, hMw q q1, Bool.false_eq_true, if_false]
           . have q2 : (V'.length + 4 == s.b) = false := by simp; omega
             have q3 : (V'.length + 2 == s.b) = false := by simp; omega
             have q4 : (V.length == s.b) = false := by simp; omega
             have q5 : (V'.length == s.b) = false := by simp; omega
             simp only [List.map_cons, List.map_nil, List.map_append, AObj.wo, AV.wo, hhw, wb8, ids_wo, bf, q2, q3, q4, q5, hMw (· == s.b) bf, Bool.false_eq_true, if_false]
         refine tqey @vft ?_
         have htk : ∀ (c0 c1 c2 c3 c4 a b c d : AObj), List.take (K + 3) (FT V' (s8.drop k0 x0 p0 y0) ++ c0 :: c1 :: c2 :: c3 :: c4 :: (M ++ [a, b, c, d])) = FT V' (s8.drop k0 x0 p0 y0) ++ c0 :: c1 :: c2 :: c3 :: c4 :: (M ++ [a, b, c]) := fun c0 c1 c2 c3 c4 a b c d => by
          rw [show FT V' (s8.drop k0 x0 p0 y0) ++ c0 :: c1 :: c2 :: c3 :: c4 :: (M ++ [a, b, c, d]) = (FT V' (s8.drop k0 x0 p0 y0) ++ c0 :: c1 :: c2 :: c3 :: c4 :: (M ++ [a, b, c])) ++ [d] by simp]
          exact List.take_left' (by rw [List.length_append, FT_len]; simp; omega)
         refine ⟨⟨(), ?_⟩, fun e he => ?_⟩
         . rw [htk]
           have hq : ∀ i, i < K + 3 -> decide (K + 3 <= i) = false := fun i hi => decide_eq_false (by omega)
           have t1 := W9.r.wo W9.i W9.v (q := fun i => decide (K + 3 <= i)) fun i hi => hq i (by omega)
           simp only [List.map_append, List.map_cons, List.map_nil, AObj.wo, AV.wo, hhw, wb8, ids_wo, t1, hq s.f (by omega), hq (V'.length + 4) (by omega), hq (V'.length + 2) (by omega), hq V.length (by omega), hq V'.length (by omega), hMw (fun i => decide (K + 3 <= i)) (hq s.f (by omega)), Bool.false_eq_true, if_false]
         . rcases recE_mem.1 he with ⟨q1, q2⟩ | q1
           . obtain ⟨e0, e1'⟩ := e
             exact List.mem_cons_of_mem _ (EF_mem.2 ⟨q2, (EF_mem.1 q1).2⟩)
           . rw [rec1, if_pos (by omega), rec1, if_pos (by omega)] at q1
             simp only [List.mem_cons, List.not_mem_nil, or_false] at q1
             rcases q1 with rfl | rfl | rfl
             . exact List.mem_cons_of_mem _ (EF_mem.2 ⟨by omega, rfl⟩)
             . exact List.mem_cons_self ..
             . exact List.mem_cons_of_mem _ (EF_mem.2 ⟨by omega, rfl⟩)
       . rintro z o lv h
         rw [hxs] at h; cases h
       . rintro i pre z o lv hpre hex
         obtain rfl : i = 2 := by injection hex
         rw [if_pos rfl]
         have hmv : moved ((V'.length + 4, true) :: EF (K + 3)) = fun i => decide (i = V'.length + 4) := by
          funext i; rw [moved, EF_moved, Bool.or_false, Bool.true_and]
         have hsl : ∀ l, slots ((V'.length + 4, true) :: EF (K + 3)) l = l.map (AV.wo fun i => decide (i = V'.length + 4)) := fun l => by
          unfold slots
          rw [show still ((V'.length + 4, true) :: EF (K + 3)) = false from rfl, <- hmv]
         have hq : ∀ i, i < K + 2 -> decide (V'.length + (2 * (gs ++ [x0.h.id]).length + 5) <= i) = false := fun i hi => decide_eq_false (by rw [List.length_append]; simp; omega)
         have hgl : (gs ++ [x0.h.id]).length = gs.length + 1 := by simp
         refine ⟨(s8.drop k0 x0 p0 y0, gs ++ [x0.h.id]), ⟨⟨hL.g.drop hk0 hx0 hlf0 hp0 hy0, hL.w.drop hL.g hk0 hy0, hL.f, hL.b, hL.r, ?_, ?_, ?_, ?_⟩, ?_⟩, ?_, ?_, ?_, ?_, ?_⟩
         . obtain ⟨x, q1, q2⟩ := hL.x
           show ∃ x, (if V.length = p0 then some { y0 with kids := y0.kids - 1 } else s8.nd V.length) = some x /\ x.ht = ht
           by_cases hp : V.length = p0
           . rw [if_pos hp]
             rw [hp, hy0] at q1; cases q1
             exact ⟨_, rfl, q2⟩
           . rw [if_neg hp]; exact ⟨x, q1, q2⟩
         . show (s8.bc.eraseIdx k0).length + (gs ++ [x0.h.id]).length <= _
           rw [hgl, List.length_eraseIdx, if_pos (List.getElem?_eq_some_iff.1 hk0).1]
           have := (List.getElem?_eq_some_iff.1 hk0).1
           omega
         . intro x hx
           rcases List.mem_append.1 hx with hx | hx
           . exact hL.i x hx
           . rw [List.mem_singleton.1 hx]; exact x0.h.id_len
         . intro l s' hd'
           have := hL.k (x0.h.id :: l) s' (.step hz8 (by omega) hk0 hk1 hlf0 hx0 hp0 hy0 hd')
           rw [List.append_assoc]; exact this
         . show (s8.bc.eraseIdx k0).length < s8.bc.length
           rw [List.length_eraseIdx, if_pos (List.getElem?_eq_some_iff.1 hk0).1]
           have := (List.getElem?_eq_some_iff.1 hk0).1
           omega
         . show V.length <= V'.length + (2 * (gs ++ [x0.h.id]).length + 5)
           omega
         . show List.map _ (.ptr (K + 1) 0 :: slots _ (dsM V'.length gs.length)) = dsM V'.length (gs ++ [x0.h.id]).length
           have q1 := hq (K + 1) (by omega)
           have e1 : (dsM V'.length gs.length).map (AV.wo fun i => decide (i = V'.length + 4)) = dsM V'.length gs.length := dsM_wo _ _ fun j hj => decide_eq_false (by omega)
           have e2 : (dsM V'.length gs.length).map (AV.wo fun i => decide (V'.length + (2 * (gs ++ [x0.h.id]).length + 5) <= i)) = dsM V'.length gs.length := dsM_wo _ _ fun j hj => hq _ (by omega)
           rw [hsl, e1, List.map_cons, hgl, dsM]
           show AV.wo (fun i => decide (V'.length + (2 * (gs ++ [x0.h.id]).length + 5) <= i)) (.ptr (K + 1) 0) :: (dsM V'.length gs.length).map (AV.wo fun i => decide (V'.length + (2 * (gs ++ [x0.h.id]).length + 5) <= i)) = _
           rw [e2, AV.wo, q1, show K + 1 = V'.length + (2 * gs.length + 6) by omega]; rfl
         . rw [hsl]
           have hw2 : ∀ k, k < K + 2 -> k ≠ V'.length + 4 -> AV.wo (fun x => decide (V'.length + (2 * (gs ++ [x0.h.id]).length + 5) <= x)) (AV.wo (fun i => decide (i = V'.length + 4)) (.ptr k 0)) = .ptr k 0 := fun k hk hne => by
            rw [show AV.wo (fun i => decide (i = V'.length + 4)) (.ptr k 0) = .ptr k 0 by rw [AV.wo, decide_eq_false hne]; rfl, AV.wo, hq k hk]; rfl
           exact ⟨congrArg some (hw2 _ (by omega) (by omega)), congrArg some (hw2 _ (by omega) (by omega)), congrArg some (hw2 _ (by omega) (by omega)), rfl⟩
         . have W9 : FW V' (s8.drop k0 x0 p0 y0) := W8.drop hL.g hk0 hy0
           have e1 : FT V' (s8.drop k0 x0 p0 y0) ++ (bx5 s hd V'.length x0i M ++ [AObj.cells 32 [AV.ptr s.f 0]]) ++ [AObj.raw (.deferred (some [])), AObj.rcd o (recA 122 [(2, .ptr V'.length 0), (5, .ptr (V'.length + 2) 0), (11, .ptr V.length 0)]) lv] =
            (FT V' (s8.drop k0 x0 p0 y0) ++ bx5 s hd V'.length (gs ++ [x0.h.id]) (mks s (gs ++ [x0.h.id]).length)) ++ [AObj.rcd o (recA 122 [(2, .ptr V'.length 0), (5, .ptr (V'.length + 2) 0), (11, .ptr V.length 0)]) lv] := by
            rw [hx0i, hgl, mks, hMM, bx5, bx5]
            simp only [List.append_assoc, List.cons_append, List.nil_append]
           have e2 : (FT V' (s8.drop k0 x0 p0 y0) ++ bx5 s hd V'.length (gs ++ [x0.h.id]) (mks s (gs ++ [x0.h.id]).length)).length = V'.length + (2 * (gs ++ [x0.h.id]).length + 5) := by rw [List.length_append, FT_len, bx5_len]
           show List.map _ (List.take (V'.length + (2 * (gs ++ [x0.h.id]).length + 5)) _) = FT V' (s8.drop k0 x0 p0 y0) ++ bx5 s hd V'.length (gs ++ [x0.h.id]) (mks s (gs ++ [x0.h.id]).length)
           rw [e1, <- e2, List.take_left, List.map_append]
           have t1 := W9.r.wo W9.i W9.v (q := fun i => decide (V'.length + (2 * (gs ++ [x0.h.id]).length + 5) <= i)) fun i hi => hq i (by omega)
           have t2 := (bx5_tl (n := V'.length) ok (by omega) (by omega) h.i.fb (gs ++ [x0.h.id]) (gs ++ [x0.h.id]).length).wo (fun i => decide (V'.length + (2 * (gs ++ [x0.h.id]).length + 5) <= i)) fun i hi => hq i (by rw [bx5_len] at hi; omega)
           exact congr (congrArg HAppend.hAppend t1) t2
         . intro e he
           rcases recE_mem.1 he with ⟨q1, q2⟩ | q1
           . rcases List.mem_cons.1 q1 with rfl | q1
             . simp only at q2; omega
             . obtain ⟨e0, e1'⟩ := e
               exact FE_mem.2 (.inr ⟨q2, (EF_mem.1 q1).2⟩)
           . exact q1
       . rintro pre z o lv hpre h
         cases h
     . have i1 := decide_eq_false (show ¬ (s8.room : Int) < (s8.bc.length : Int) - (z8.ht : Int) - 1 by omega)
       refine tqey (cj5 @vft @kallT @hi8 @c8 @i1) ?_
       have hq : ∀ i, i < V'.length + (2 * gs.length + 5) -> decide (V'.length + (2 * gs.length + 5) <= i) = false := fun i hi => decide_eq_false (by omega)
       have hbl5 : (bx5 s hd V'.length gs M).length = 2 * gs.length + 5 := by rw [bx5]; simp [hMl]
       refine ⟨(s8, gs), ⟨hL, .done hz8 (by show s8.bc.length <= z8.ht + 1 + s8.room; omega)⟩, by show V.length <= V'.length + (2 * gs.length + 5); omega, dsM_wo _ _ fun i hi => hq _ (by omega), ?_, ?_, fun _ h => h⟩
       . refine ⟨?_, ?_, ?_, rfl⟩
         . show some (AV.wo _ (.ptr V'.length 0)) = _
           rw [AV.wo, hq V'.length (by omega)]; rfl
         . show some (AV.wo _ (.ptr (V'.length + 2) 0)) = _
           rw [AV.wo, hq (V'.length + 2) (by omega)]; rfl
         . show some (AV.wo _ (.ptr V.length 0)) = _
           rw [AV.wo, hq V.length (by omega)]; rfl
       . show List.map _ (List.take _ (FT V' s8 ++ bx5 s hd V'.length gs M)) = FT V' s8 ++ bx5 s hd V'.length gs (mks s gs.length)
         rw [List.take_of_length_le (by rw [List.length_append, FT_len, hbl5]; exact Nat.le_refl _), List.map_append, W8.r.wo W8.i W8.v (fun i hi => hq i (by omega)), tl.wo _ fun i hi => hq i (by rw [hbl5] at hi; exact hi), hMM]
   . rintro ⟨s8, gs⟩ g tmp ⟨hL, hD⟩
     dsimp only at hL hD ⊢
     have W8 : FW V' s8 := hV' ▸ hL.w
     obtain ⟨x8, hx8, hxh⟩ := hL.x
     have hn8 := W8.i.nrules hx8
     have hx8r := Nd.rules (W8.r.h _ _ hx8)
     unfold bx5
     refine tqey @vft ?_
     refine SemA.draw (fun i => decide (i ≠ V'.length + 2)) [(0, true), (1, true), (2, true), (3, true), (5, true), (4, false), (6, false), (7, true)] mixed (by kernel_rfl) ?_
     have k0 : decide (V.length ≠ V'.length + 2) = true := decide_eq_true (by omega)
     have k1 : decide (V'.length + 2 ≠ V'.length + 2) = false := decide_eq_false fun e => e rfl
     have hE : rec1 V.length (V'.length + 2) false (FE V.length s.b) = FE V.length s.b := by rw [rec1, if_neg (by omega)]
     simp -dsimp +decide (disch := omega) only [vrm, vt2, vy, vz, vze, v1q, ↓reduceIte, Nat.reduceSub, Nat.reduceAdd, Nat.reduceMul, Nat.reduceLT, Int.reduceAdd, Int.reduceSub, Int.reduceToNat, v4q, vft, keepT_get, keepO, hn8, hx8r, k0, k1, Option.map_some, hE]
     refine retM.of (V'.length + 5) (by omega) (fun a ha => ?_) (dsM_nodup _ _) fun T' h1 h2 => ?_
     . obtain ⟨j, hj, rfl⟩ := dsM_mem ha
       refine ⟨_, rfl, by omega, ?_⟩
       rw [List.getElem?_append_right (by rw [FT_len]; omega), FT_len, show V'.length + (2 * j + 6) - V'.length = (2 * j + 1) + 1 + 1 + 1 + 1 + 1 by omega]
       simp only [List.getElem?_cons_succ]
       exact mks_get s hj
     rw [vft.2.2.2.2.2.2.2.2.1] at h2
     obtain ⟨l', rfl⟩ : ∃ l', T' = FT V' s8 ++ (AObj.cells 32 [AV.ptr s.f 0] :: AObj.cells 28 hd.cs :: AObj.cells 40 [AV.sl (V'.length + 4) 0 gs.length] :: AObj.cells 26 (List.map by8 hd.id) :: AObj.buf 26 32 (gs.flatMap fun x => x.map by8) :: l') :=
      ⟨T'.drop (V'.length + 5), (List.take_append_drop (V'.length + 5) T').symm.trans (by rw [h2, List.append_assoc]; rfl)⟩
     refine tqey (cj3 @vft @vres @vone) ?_
     refine Vw.pub (V'.length + 4) (o := .buf 26 32 (gs.flatMap fun x => x.map by8)) (vft.2.2.2.2.2.1 _ _ _ _ _ _ _ _) rfl (fun a ha => ?_) ?_
     . obtain ⟨x, _, hx⟩ := List.mem_flatMap.1 ha
       obtain ⟨b, _, rfl⟩ := List.mem_map.1 hx
       exact .p _
     have wt8 := W8.r.t' W8.i W8.v
     have hE2 : rec1 V.length (V'.length + 4) false (FE V.length s.b) = FE V.length s.b := by rw [rec1, if_neg (by omega)]
     refine tqey (cj3 @vft @wt8 @hE2) ?_
     refine Vw.cutN V'.length (by rw [FT_len]; omega) (Vw.done ?_)
     refine ⟨s8, ht, gs, 0, [.gone], _, by have := hL.k [] s8 hD; rwa [List.append_nil] at this, hL.g, IdL.vs hL.i, hL.w, ⟨1, rfl⟩, hL.b, hL.f, ?_, ?_, rfl⟩
     . simp only [AV.wo, AV.woL, hxh, wint]
     . rw [vft.2.2.2.2.2.2.2.2.2.1, wt8.2.1, hV']
 refine tqez (cj4 @vft @hf @hi @hr) ?_
 refine (pid_ok ok).det' ?_
 refine tqez (cj7 @vft @hf @hi @hr @ez32 @vh @hid) ?_
 refine SemA.draw (fun i => true) [(0, true), (1, true), (2, true), (3, true), (4, true), (5, true), (6, true)] mixed (by kernel_rfl) ?_
 cases hlk : s.look hd.id with
 | some i =>
   rw [hlk] at hmf
   obtain ⟨x, hx⟩ := g.x i (g.look hlk).1
   have hn := h.i.nrules hx
   have hxr := Nd.rules (h.r.h _ _ hx)
   refine tqez (cj19 @vft @hf @hi @hr @ez32 @vh @hid @hko @hmf @hfl @h32 @hv_fold @kallT @bb2 @hn @hxr @vres @vone @Option.map_some.{0, 0}) ?_
   exact AddK.same h g (.known hlk hx) rfl rfl rfl fun _ _ => FT_len _ _
 | none =>
 rw [hlk] at hmf
 refine tqez (cj15 @vft @hf @hi @hr @ez32 @vh @hid @hko @hmf @hfl @h32 @hv_fold @kallT @bb2 @Option.map_none.{0, 0}) ?_
 refine SemA.draw (fun i => true) [(0, true), (1, true), (2, true), (3, true), (4, true), (5, true), (6, true), (7, true)] mixed (by kernel_rfl) ?_
 cases hlp : s.look hd.prev with
 | none =>
   rw [hlp] at hmf2
   refine tqez (cj17 @vft @hf @hi @hr @ez32 @vh @hid @hko2 @hmf2 @hfl2 @h32b @hv_fold @kallT @bb2 @vres @vone @Option.map_none.{0, 0}) ?_
   exact AddK.same h g (.none hlk hlp) rfl rfl rfl fun _ _ => FT_len _ _
 | some p =>
 rw [hlp] at hmf2
 obtain ⟨hpb, hpi⟩ := g.look hlp
 obtain ⟨y, hy⟩ := g.x p hpb
 obtain ⟨r, hpath, hrb⟩ := g.p p hpb
 have hn := h.i.nrules hy
 have hyr := Nd.rules (h.r.h _ _ hy)
 have hrl : r.length + 1 <= s.bc.length := hpath.len hrb
 refine tqez (cj16 @vft @hf @hi @hr @ez32 @vh @hid @hko2 @hmf2 @hfl2 @h32b @hv_fold @kallT @bb2 @hn @Option.map_some.{0, 0}) ?_
 refine SemA.draw (fun i => true) [(0, true), (1, true), (2, true), (3, true), (4, true), (6, true), (5, false), (7, false), (8, true)] mixed (by kernel_rfl) ?_
 refine tqez (cj5 @vft @hf @hi @hr @kallT) ?_
 have hfl' := h.i.f
 have hbl' := h.i.b
 have hfb := h.i.fb
 have hhw := hr.2.2.2.2.2.2.2.2.2.1
 have tl : Tl V.length s.b [AObj.cells 32 [AV.ptr s.f 0], AObj.cells 28 hd.cs, AObj.cells 40 [AV.p (Value.slice none 0 0)], AObj.cells 26 (List.map by8 hd.id)] := by
  refine ⟨fun q hq => ?_, ?_⟩
  . have := hq s.f (by omega)
    simp only [List.map_cons, List.map_nil, AObj.wo, AV.wo, hhw, wb8, this, Bool.false_eq_true, if_false]
  . have : (s.f == s.b) = false := by simpa using hfb
    simp only [List.map_cons, List.map_nil, AObj.wo, AV.wo, hhw, wb8, this, Bool.false_eq_true, if_false]
 have hch := hchain_ok (h.app tl) hpath (by omega)
 rw [<- FT_tail h.i] at hch
 refine hch.det' ?_
 refine tqez (cj5 @vft @hf @hi @hr @kallT) ?_
 have hho : ∀ x ∈ hds s (p :: r), x.Ok := fun x hx => by
  rw [hds, List.mem_reverse, List.mem_map] at hx
  obtain ⟨j, _, rfl⟩ := hx
  exact Fst.hd_ok h.r j
 have hhl : (hds s (p :: r)).length = r.length + 1 := by rw [hds_len]; rfl
 have hes : ∀ T, Es T 68 Hdr.cs (.vs ((hds s (p :: r)).flatMap Hdr.cs) (r.length + 1)) (hds s (p :: r)) := fun T => by
  have := Es.vs (T := T) (f := Hdr.cs) (sz := 68) (xs := hds s (p :: r)) fun x hx => Hdr.cs_len (hho x hx)
  rwa [hhl] at this
 refine (right_ok' h.r.p (hes _) hho ok (by omega)).det' ?_
 obtain ⟨er, her⟩ : ∃ e, e = rightE s.p (hds s (p :: r)) hd := ⟨_, rfl⟩
 rw [<- her]
 by_cases hz : ¬ er = 0
 . have i1 := eq_false hz
   refine tqez (cj9 @vft @hf @hi @hr @kallT @i1 @bb2 @vres @vone) ?_
   refine AddK.same h g (.wrong hlk hlp hpath (by rw [<- her]; exact hz)) rfl rfl (by rw [her]) fun _ _ => FT_len _ _
 have hz := Classical.not_not.1 hz
 have i1 := eq_true hz
 obtain ⟨hpx1, hpx2, hpx3⟩ : y.ht = r.length /\ y.ht <= 50000 /\ True := by
  obtain ⟨x, h1, h2, h3⟩ := hpath.head
  rw [hy] at h1; cases h1
  exact ⟨h2, by omega, trivial⟩
 have hht : IntKind.i64.wrap ((y.ht : Int) + 1) = ((y.ht + 1 : Nat) : Int) := IntWalk.i64_in _ (by omega)
 refine tqez (cj7 @vft @hf @hi @hr @kallT @i1 @bb2) ?_
 refine SemA.draw (fun i => true) [(0, true), (1, true), (2, true), (3, true), (4, true), (5, true), (6, true), (7, true), (8, true), (9, false), (10, true)] mixed (by kernel_rfl) ?_
 have b2 := bN_rules.2.1 hd ok
 have b3 := bN_rules.2.2.1 hd ok
 have b4 := bN_rules.2.2.2.1 hd ok hd.id hid
 have b5 := bN_rules.2.2.2.2.1 hd ok hd.id hid
 have b5a := b5 tzN rfl
 have b5b := b5 (tzN.set 0 (.ptr p 0)) rfl
 obtain ⟨x0, hx0⟩ : ∃ x0 : Nd, x0 = ⟨hd, some p, y.ht + 1, 0, 0, false⟩ := ⟨_, rfl⟩
 have hx0c : bN hd.cs (List.map by8 hd.id) ((tzN.set 0 (.ptr p 0)).set 1 (.p (.int .i64 ((y.ht + 1 : Nat) : Int)))) = x0.cs := by
  have e : [oQ, oQ, oQ, oQ] = [lw 0 0, lw 0 1, lw 0 2, lw 0 3] := rfl
  simp only [List.cons.injEq, and_true] at e
  rw [hx0]
  simp only [bN, tzN, Nd.cs, Nd.tl, ptrO, e, List.set_cons_zero, List.set_cons_succ]; rfl
 have hx0r : x0.cs.length = 108 := (Nd.rules (x := x0) (by rw [hx0]; exact ok)).1
 have b6 := bN_rules.2.2.2.2.2.1 hd ok hd.id hid
 have b7 := bN_rules.2.2.2.2.2.2 hd ok hd.id hid
 refine tqez (cj23 @vft @hf @hi @hr @kallT @hn @hyr @ez32 @vh @hid @hht @h32 @ezN @bN_rules @b2 @b3 @b4 @b5a @b5b @b6 @b7 @hx0c @hx0r) ?_
 refine SemA.draw (fun i => true) [(0, true), (1, true), (2, true), (3, true), (4, true), (5, true), (6, false), (7, false), (8, true), (9, true), (10, true), (11, true), (12, true), (13, false)] mixed (by kernel_rfl) ?_
 refine tqez (cj8 @vft @hf @hi @hr @kallT @hn @hyr @vbg) ?_
 refine (hwork_ok ok).det' ?_
 refine tqez (cj8 @vft @hf @hi @hr @kallT @hn @hyr @vbg) ?_
 have hywk : y.wk < 2 ^ 256 := by rw [g.w p y r hy hpath hpb]; exact sumH_lt _
 refine (padd_ok hywk (wkH_lt hd)).det' ?_
 have hx1 : wrA x0.cs 102 (Bg ((y.wk + wkH hd) % 2 ^ 256)) = (Fst.newN hd p y).cs := by
  rw [(Nd.rules (x := x0) (by rw [hx0]; exact ok)).2.2.2.2.2.2.2.2.2.2.2.1, hx0]; rfl
 have hx1r := Nd.rules (x := Fst.newN hd p y) ok
 have hx0o : ∀ k : Nat, k < 108 -> k < x0.cs.length := fun k hk => by rw [hx0r]; exact hk
 obtain ⟨y1, hy1⟩ : ∃ y1 : Nd, y1 = { y with kids := y.kids + 1 } := ⟨_, rfl⟩
 have hyk : y.kids <= 50000 := by
  rw [g.c p y hy hpb]
  exact Nat.le_trans (List.length_filter_le _ _) hlen
 have hkid : IntKind.i64.wrap ((y.kids : Int) + 1) = ((y.kids + 1 : Nat) : Int) := IntWalk.i64_in _ (by omega)
 simp -dsimp +decide (disch := omega) only [vrm, vt2, vy, vz, vze, v1q, ↓reduceIte, Nat.reduceSub, Nat.reduceAdd, Nat.reduceMul, Nat.reduceLT, Int.reduceAdd, Int.reduceSub, Int.reduceToNat, v2q, vft, hf, hi, hr, kallT, hn, hyr, vbg, hx1, hx0r, hkid, <- hy1]
 have hpl := h.i.nn p y hy
 have h1 : (s.setN p y1).In V.length := h.i.setN hy y1
 have hr1 : (s.setN p y1).Ref V.length := by
  refine ⟨h.r.p, fun i x hx => ?_, h.r.o, h.r.t, h.r.e, h.r.b, fun i x j hx hj => ?_⟩
  . have hx' : (if i = p then some y1 else s.nd i) = some x := hx
    split at hx'
    . cases hx'; rw [hy1]; exact h.r.h p y hy
    . exact h.r.h i x hx'
  . have hx' : (if i = p then some y1 else s.nd i) = some x := hx
    split at hx'
    . cases hx'; rw [hy1] at hj; exact h.r.on p y j hy hj
    . exact h.r.on i x j hx' hj
 have wt1 := hr1.t' h1 h.v
 have hwi : (FT V (s.setN p y1)).map (AObj.ren (permF (FT V (s.setN p y1)).length [4, 0, 1, 2, 3])) = FT V (s.setN p y1) := by
  rw [FT_len]; exact tbl_ren (permF_id V.length [4, 0, 1, 2, 3]) wt1.2.1
 have hvn := vn (permF V.length [4, 0, 1, 2, 3]) V.length [4, 0, 1, 2, 3]
 have hix : idxO [4, 0, 1, 2, 3] 0 = some 1 /\ idxO [4, 0, 1, 2, 3] 1 = some 2 /\ idxO [4, 0, 1, 2, 3] 2 = some 3 /\ idxO [4, 0, 1, 2, 3] 3 = some 4 /\ idxO [4, 0, 1, 2, 3] 4 = some 0 := ⟨rfl, rfl, rfl, rfl, rfl⟩
 have hpf : permF V.length [4, 0, 1, 2, 3] s.f = some s.f := if_pos hfl'
 have hpp : permF V.length [4, 0, 1, 2, 3] p = some p := if_pos hpl
 have hxn : ∀ f : Nat -> Option Nat, f p = some p -> (Fst.newN hd p y).cs.map (AV.ren f) = (Fst.newN hd p y).cs := fun f hfp => by
  refine cs_ren (q := fun j => decide (j ≠ p)) (fun j hj => ?_) ?_
  . have : j = p := by simpa using hj
    rw [this, hfp]
  . exact Nd.wo (x := Fst.newN hd p y) ok fun i hi => by cases hi; simp
 have rb8 : ∀ l : List UInt8, (List.map by8 l).map (AV.ren (permF V.length [4, 0, 1, 2, 3])) = List.map by8 l := fun l => ren_all fun q => wb8 q l
 refine SemA.perm (FT V (s.setN p y1)) _ [4, 0, 1, 2, 3] rfl (by decide) (by simp) (by rw [FT_len]; exact Nat.le_refl _) hwi ?_
 simp -dsimp +decide only [vrm, vt2, vy, vz, vze, v1q, ↓reduceIte, Nat.reduceSub, Nat.reduceAdd, Nat.reduceMul, Nat.reduceLT, Int.reduceAdd, Int.reduceSub, Int.reduceToNat, ci, vft, hvn, hix, hpf, hpp, hxn, ren_all hhw, rb8, Option.map_some, Option.map_none, List.getElem?_cons_zero, List.getElem?_cons_succ, Option.getD_some, List.map_cons, List.map_nil]
 rw [FT_new h1]
 obtain ⟨s2, hs2⟩ : ∃ s2, s2 = (s.setN p y1).setN V.length (Fst.newN hd p y) := ⟨_, rfl⟩
 have e1 : V.length + 1 = V'.length := hVl.symm
 have e2 : V.length + 2 = V'.length + 1 := by omega
 have e3 : V.length + 3 = V'.length + 2 := by omega
 have e4 : V.length + 4 = V'.length + 3 := by omega
 rw [<- hV', <- hs2]
 simp only [e1, e2, e3, e4]
 have h2 : s2.In V'.length := by rw [hs2, hVl]; exact h1.new _
 have hi2 := h2.rules
 have f2f : s2.f = s.f := by rw [hs2]; rfl
 have f2m : s2.m = s.m := by rw [hs2]; rfl
 have f2b : s2.b = s.b := by rw [hs2]; rfl
 have f2c : s2.cs = s.cs := by rw [hs2]; rfl
 have f2e : s2.es = s.es := by rw [hs2]; rfl
 have f2o : s2.bc = s.bc := by rw [hs2]; rfl
 rw [f2f, f2m, f2b, f2c, f2e, f2o] at hi2
 have hml' := h.i.m
 have kf : decide (s.f ≠ s.b /\ s.f ≠ s.m) = true := decide_eq_true ⟨hfb, h.i.fm⟩
 have kL : decide (V'.length ≠ s.b /\ V'.length ≠ s.m) = true := decide_eq_true (by omega)
 have kk : ∀ k, decide (V'.length + k ≠ s.b /\ V'.length + k ≠ s.m) = true := fun k => decide_eq_true (by omega)
 have kb : decide (s.b ≠ s.b /\ s.b ≠ s.m) = false := decide_eq_false fun e => e.1 rfl
 have km : decide (s.m ≠ s.b /\ s.m ≠ s.m) = false := decide_eq_false fun e => e.2 rfl
 have bm : (s.m == s.b) = false := by simpa using h.i.mb
 have bf : (s.f == s.b) = false := by simpa using hfb
 have bn : (V.length == s.b) = false := by simp; omega
 have bp : (p == s.b) = false := by simpa using (h.i.ne hy).2.2
 have hnb : ∀ i ∈ s.bc, (i == s.b) = false := fun i hi => by
  obtain ⟨z, hz⟩ := g.x i hi
  simpa using (h.i.ne hz).2.2
 have hbcw : List.map (AV.wo fun x => x == s.b) (ptrs s.bc) = ptrs s.bc := ptrs_wo hnb
 have hon : ∀ i x j, s2.nd i = some x -> x.on = some j -> (j == s.b) = false := fun i x j hx hj => by
  rw [hs2] at hx
  have hx' : (if i = V.length then some (Fst.newN hd p y) else if i = p then some y1 else s.nd i) = some x := hx
  have key : ∀ i x, s.nd i = some x -> x.on = some j -> (j == s.b) = false := fun i x hx hj => by
   obtain ⟨w, hw⟩ := h.n i x j hx hj
   simpa using (h.i.ne hw).2.2
  split at hx'
  . cases hx'; cases hj; exact bp
  . split at hx'
    . cases hx'; rw [hy1] at hj; exact key p y hy hj
    . exact key i x hx' hj
 obtain ⟨s3, hs3⟩ : ∃ s3 : Fst, s3 = { s2 with oa := .any } := ⟨_, rfl⟩
 have hok2 : ∀ i x, s2.nd i = some x -> x.h.Ok := fun i x hx => by
  rw [hs2] at hx
  have hx' : (if i = V.length then some (Fst.newN hd p y) else if i = p then some y1 else s.nd i) = some x := hx
  split at hx'
  . cases hx'; exact ok
  . exact hr1.h i x hx'
 have hoa : s2.oa = .sl s.b 0 s.bc.length := by rw [hs2]; exact h.o
 have hVb : V'.map (AObj.wo (· == s.b)) = V' := by rw [hV', List.map_append, h.v.b]; rfl
 have w3 : (FT V' s2).map (AObj.wo fun x => x == s.b) = FT V' s3 := by
  rw [FT_wo (by rw [hs2]; exact h.r.p) hok2 (by rw [f2m]; exact bm) (by
   have : s2.top = s.top := by rw [hs2]; rfl
   rw [this]; exact hnb _ g.t) (fun e he => by
   rw [f2e, g.e, List.mem_map] at he
   obtain ⟨i, hi, rfl⟩ := he
   exact hnb i hi) (fun i hi => by rw [f2o] at hi; exact hnb i hi) hon, hVb, hoa, hs3]
  congr 2
  rw [AV.wo]; simp
 have h3 : s3.In V'.length := by rw [hs3]; exact h2.put _ _ _ _ _ _
 obtain ⟨s4, hs4⟩ : ∃ s4 : Fst, s4 = { s3 with bc := s.bc ++ [V.length] } := ⟨_, rfl⟩
 have h4 : s4.In V'.length := by rw [hs4]; exact h3.put _ _ _ _ _ _
 have p4 : ptrs s.bc ++ [.ptr V.length 0] = ptrs (s.bc ++ [V.length]) := by rw [ptrs, ptrs, List.map_append]; rfl
 have g4 : (FT V' s3).set s.b (.buf 72 1 (ptrs (s.bc ++ [V.length]))) = FT V' s4 := by
  have := h3.sb (s.bc ++ [V.length])
  have eb : s3.b = s.b := by rw [hs3]; exact f2b
  rw [<- eb, hs4]
  exact this
 have g4a : ∀ l o, (FT V' s3 ++ l).set s.b o = (FT V' s3).set s.b o ++ l := fun l o => FT_apps (by omega) l o
 have f4m : s4.m = s.m := by rw [hs4, hs3]; exact f2m
 have f4f : s4.f = s.f := by rw [hs4, hs3]; exact f2f
 have g4m : ∀ l, (FT V' s4 ++ l)[s.m]? = some (.map (s.es.map ent)) := fun l => by
  rw [FT_app (by omega), <- f4m, h4.gm]
  rw [show s4.es = s.es by rw [hs4, hs3]; exact f2e]
 have hidl : (List.map by8 hd.id).length = 32 := by rw [List.length_map, hid]
 have hidt : List.take 32 (List.map by8 hd.id) = List.map by8 hd.id := List.take_of_length_le (by omega)
 have hpl8 : plains (List.map by8 hd.id) = some (hd.id.map fun b => .int .u8 (b.toNat : Int)) := plains_map' _ _
 have hbcw4 : List.map (AV.wo fun x => x == s.b) (ptrs (s.bc ++ [V.length])) = ptrs (s.bc ++ [V.length]) := ptrs_wo fun i hi => by
  rcases List.mem_append.1 hi with hi | hi
  . exact hnb i hi
  . rw [List.mem_singleton.1 hi]; exact bn
 have bL : (V'.length == s.b) = false := by simp; omega
 have bk : ∀ k, (V'.length + k == s.b) = false := fun k => by simp; omega
 have bb : (s.b == s.b) = true := by simp
 have mf0 : mfind (s.es.map ent) (hv hd.id) = none := by rw [hmf]; rfl
 refine SemA.draw (fun i => decide (i ≠ s.b /\ i ≠ s.m)) [(0, true), (1, true), (2, true), (3, true), (4, true), (5, true), (6, true), (7, true), (8, true), (9, true), (10, true), (11, true), (12, false), (13, false), (14, false), (15, true), (16, false), (17, true), (18, true), (19, false)] mixed (by kernel_rfl) ?_
 simp -dsimp +decide (disch := omega) only [vrm, vt2, vy, vz, vze, v1q, ↓reduceIte, Nat.reduceSub, Nat.reduceAdd, Nat.reduceMul, Nat.reduceLT, Int.reduceAdd, Int.reduceSub, Int.reduceToNat, v2q, vft, hf, hi2, h.o, keepT_get, keepO, kf, kL, kk, kb, km, Option.map_some, bm, bf, bn, hbcw, w3, p4, g4, g4a, g4m, hidl, hidt, wb8, hpl8, hv_fold, ptrs_len, hhw, hbcw4, bL, bk, bp, bb, h32, mf0, hko, Option.getD_none]
 refine ⟨⟨by omega, by omega⟩, ?_⟩
 intro ms c b5' hMF hMB
 have g5a : ∀ l o, (FT V' s4 ++ l).set s.m o = (FT V' s4).set s.m o ++ l := fun l o => FT_apps (by omega) l o
 have hml4 : s.m < (FT V' s4).length := by rw [FT_len]; omega
 have g5b : ∀ l o, ((FT V' s4).set s.m o ++ l)[s.m]? = some o := fun l o => by rw [List.getElem?_append_left (by rw [List.length_set]; exact hml4), List.getElem?_set_self hml4]
 have g5c : ∀ l o o', ((FT V' s4).set s.m o ++ l).set s.m o' = (FT V' s4).set s.m o' ++ l := fun l o o' => by rw [List.set_append_left _ _ (by rw [List.length_set]; exact hml4), List.set_set]
 obtain ⟨s5, hs5⟩ : ∃ s5 : Fst, s5 = { s4 with es := s.es ++ [(hd.id, V.length)] } := ⟨_, rfl⟩
 have h5 : s5.In V'.length := by rw [hs5]; exact h4.put _ _ _ _ _ _
 have g5 : (FT V' s4).set s.m (.map ((s.es ++ [(hd.id, V.length)]).map ent)) = FT V' s5 := by
  have := h4.sm (s.es ++ [(hd.id, V.length)])
  rw [<- f4m, hs5]
  exact this
 have hms := mset_new (es := s.es.map ent) (k := Proofs.YtfpjalgfnjjcmaaGreatDoor.hv hd.id) (by rw [hmf]; rfl) (.p (.pointer none)) (.ptr V.length 0)
 have hme : s.es.map ent ++ [(Proofs.YtfpjalgfnjjcmaaGreatDoor.hv hd.id, .ptr V.length 0)] = (s.es ++ [(hd.id, V.length)]).map ent := by rw [List.map_append]; rfl
 simp -dsimp +decide (disch := omega) only [vrm, vt2, vy, vz, vze, v1q, ↓reduceIte, Nat.reduceSub, Nat.reduceAdd, Nat.reduceMul, Nat.reduceLT, Int.reduceAdd, Int.reduceSub, Int.reduceToNat, v4q, g5a, g5b, g5c, mf0, Option.getD_none]
 refine ⟨_, _, b5', rfl, hMF, hMB, rfl, ?_⟩
 rw [hms, hme]
 have c5 : s5.cs = Fst.cs { s with oa := .any } := by rw [hs5, hs4, hs3, hs2]; rfl
 have g5f : ∀ l, (FT V' s5 ++ l)[s.f]? = some (.cells 79 (Fst.cs { s with oa := .any })) := fun l => by
  have := h5.gf
  rw [c5, show s5.f = s.f by (rw [hs5]; exact f4f)] at this
  rw [FT_app (by omega)]; exact this
 have c6 := Fst.rules (s := { s with oa := .any }) h.r.p
 have g5s : ∀ l o, (FT V' s5 ++ l).set s.f o = (FT V' s5).set s.f o ++ l := fun l o => FT_apps (by omega) l o
 obtain ⟨s6, hs6⟩ : ∃ s6 : Fst, s6 = s.addN hd V.length p y := ⟨_, rfl⟩
 have g6 : (FT V' s5).set s.f (.cells 79 (Fst.cs { s with oa := .sl s.b 0 (s.bc.length + 1) })) = FT V' s6 := by
  have := h5.sf (s' := s6) (c := Fst.cs { s with oa := .sl s.b 0 (s.bc.length + 1) }) (by rw [hs6, hs5, hs4, hs3, hs2, hy1]; rfl) (by rw [hs6]; rfl)
  rw [show s5.f = s.f by rw [hs5]; exact f4f] at this
  exact this
 have h6 : s6.In V'.length := by
  have := h5.put s.p s.room (.sl s.b 0 (s.bc.length + 1)) s.top (s.es ++ [(hd.id, V.length)]) (s.bc ++ [V.length])
  rw [hs5, hs4, hs3, hs2, hy1] at this
  rw [hs6]; exact this
 refine tqey (cj9 @g5 @vft @kf @kb @km @g5f @c6 @g5s @g6) ?_
 have hni : s.nd V.length = none := by
  cases hx : s.nd V.length with
  | none => rfl
  | some x => have := h.i.nn _ x hx; omega
 have G6 : s6.G := by rw [hs6]; exact g.addN hlk hlp hy hni
 have W6 : FW V' s6 := by rw [hs6, hV']; exact h.addN g ok hy (by omega)
 have P6 : Path s6 (V.length :: p :: r) := by rw [hs6]; exact hpath.addN hy hni
 obtain ⟨rt, hrt, hrtb⟩ := g.p s.top g.t
 have R6 : Path s6 (s.top :: rt) := by rw [hs6]; exact hrt.addO hy hni
 obtain ⟨z, hz1⟩ := g.x s.top g.t
 have f6f : s6.f = s.f := by rw [hs6]; rfl
 have f6b : s6.b = s.b := by rw [hs6]; rfl
 have f6t : s6.top = s.top := by rw [hs6]; rfl
 have f6p : s6.p = s.p := by rw [hs6]; rfl
 have f6r : s6.room = s.room := by rw [hs6]; rfl
 obtain ⟨z6, hz6, hz6w⟩ : ∃ z6, s6.nd s.top = some z6 /\ z6.wk = z.wk := by
  rw [hs6]
  show ∃ z6, (if s.top = V.length then _ else if s.top = p then _ else s.nd s.top) = some z6 /\ _
  have := h.i.nn _ z hz1
  rw [if_neg (by omega)]
  by_cases htp : s.top = p
  . rw [if_pos htp]
    rw [htp, hy] at hz1; cases hz1
    exact ⟨_, rfl, rfl⟩
  . rw [if_neg htp]; exact ⟨z, hz1, rfl⟩
 have hn6 : s6.nd V.length = some (Fst.newN hd p y) := by rw [hs6]; show (if V.length = V.length then _ else _) = _; rw [if_pos rfl]
 have sE1 : ∀ E, (∀ e ∈ E, e ∈ FE V.length s.b) -> Go.E.subE (rec1 V.length s.f false (rec1 V.length s.m false (rec1 V.length s.m false (rec1 V.length s.b true (rec1 V.length p false E))))) (FE V.length s.b) := by
  intro E hE e he
  simp only [rec1, hfl', hml', hbl', hpl, if_true, List.mem_cons] at he
  rcases he with rfl | rfl | rfl | rfl | rfl | he
  . exact FE_mem.2 (.inr ⟨hfl', rfl⟩)
  . exact FE_mem.2 (.inr ⟨hml', rfl⟩)
  . exact FE_mem.2 (.inr ⟨hml', rfl⟩)
  . exact FE_mem.2 (.inl ⟨rfl, rfl⟩)
  . exact FE_mem.2 (.inr ⟨hpl, rfl⟩)
  . exact hE e he
 have hzwk : z.wk < 2 ^ 256 := by rw [g.w _ z rt hz1 hrt g.t]; exact sumH_lt _
 have hnwk : (y.wk + wkH hd) % 2 ^ 256 < 2 ^ 256 := Nat.mod_lt _ (by decide)
 have hi6 := h6.rules
 rw [f6f, f6b] at hi6
 have hn6r := h6.nrules hn6
 have hz6r := h6.nrules hz6
 have hz6n := Nd.rules (W6.r.h _ _ hz6)
 have c6f := Fst.rules W6.r.p
 rw [f6t] at c6f
 refine SemA.draw (fun i => true) [(0, true), (1, true), (2, true), (3, true), (4, true), (5, true), (6, true), (7, true), (8, true), (9, true), (10, true), (11, false)] mixed (by kernel_rfl) ?_
 refine tqez (cj9 @vft @hi6 @hn6r @hz6r @hz6n @hx1r @c6f @kallT @vbg) ?_
 obtain ⟨L5, hL5⟩ : ∃ L5 : Tbl, L5 = [AObj.cells 32 [AV.ptr s.f 0], AObj.cells 28 hd.cs, AObj.cells 40 [AV.p (Value.slice none 0 0)], AObj.cells 26 (List.map by8 hd.id), AObj.buf 72 1 [AV.ptr V.length 0]] := ⟨_, rfl⟩
 have tl5 : Tl V'.length s.b L5 := by
  rw [hL5]
  refine ⟨fun q hq => ?_, ?_⟩
  . have q1 := hq s.f (by omega)
    have q2 := hq V.length (by omega)
    simp only [List.map_cons, List.map_nil, AObj.wo, AV.wo, hhw, wb8, q1, q2, Bool.false_eq_true, if_false]
  . simp only [List.map_cons, List.map_nil, AObj.wo, AV.wo, hhw, wb8, bf, bn, Bool.false_eq_true, if_false]
 have w1 : ∀ k j : Nat, k < V'.length -> decide (V'.length + j <= k) = false := fun k j hk => decide_eq_false (by omega)
 have htl := fun (U : Tbl) (x : AObj) => (rfl : U = U)
 have fin : ∀ s7 : Fst, s7 = (if z.wk < (y.wk + wkH hd) % 2 ^ 256 then s6.turn (s.top :: rt) (V.length :: p :: r) V.length else s6) -> s7.G -> FW V' s7 -> s7.f = s.f -> s7.b = s.b -> s7.room = s.room -> s7.bc = s6.bc -> (∃ x, s7.nd V.length = some x /\ x.ht = y.ht + 1) -> AddM V s hd s7 (y.ht + 1) := by
  intro s7 e7 a1 a2 a3 a4 a5 a6 a7
  refine ⟨a1, hV' ▸ a2, a3, a4, a5, a7, by rw [a6, hs6]; show (s.bc ++ [_]).length <= _; simp, fun l s' hd' => ?_⟩
  exact .right hlk hlp hpath (by rw [<- her]; exact hz) hy h.i.nn (Nat.le_refl _) hz1 hrt (by rw [e7, hs6]) hd'
 have wtd := W6.r.t' W6.i W6.v
 refine (pless_ok (show z6.wk < 2 ^ 256 by rw [hz6w]; exact hzwk) hnwk).det' ?_
 rw [hz6w]
 have box5 : ∀ k, box4 s hd (.p (.slice none 0 0)) = L5.take (4 + 0 * k) := fun k => by rw [hL5, Nat.zero_mul]; rfl
 by_cases hw : z.wk < (y.wk + wkH hd) % 2 ^ 256
 . have i2 := decide_eq_true hw
   rw [show (Fst.newN hd p y).wk = (y.wk + wkH hd) % 2 ^ 256 from rfl, i2]
   have htu := turn_ok (W6.app (f6b ▸ tl5)) (by rw [f6t]; exact R6) P6
   rw [f6t, f6f, <- FT_tail W6.i] at htu
   rw [hL5] at htu
   have G7 := G6.turn (f6t ▸ R6) P6 (by rw [hs6]; show _ ∈ s.bc ++ [_]; simp)
   have W7 : FW V' (s6.turn (s.top :: rt) (V.length :: p :: r) V.length) := W6.turn (by omega)
   rw [f6t] at G7
   have hx7 : ∃ x, (s6.turn (s.top :: rt) (V.length :: p :: r) V.length).nd V.length = some x /\ x.ht = y.ht + 1 := by
    refine ⟨_, Fst.setB_some (Fst.setB_some hn6), ?_⟩
    split <;> split <;> rfl
   have M7 := fin _ (by rw [if_pos hw]) G7 W7 f6f f6b f6r rfl hx7
   have T7 := FT_tail W7.i L5
   rw [hL5] at T7
   rw [<- T7] at htu
   have wt7 := W7.r.t' W7.i W7.v
   refine tqez (cj8 @vft @hi6 @kallT @bb2 @e1 @e2 @e3 @e4) ?_
   refine htu.det' ?_
   refine tqez (cj11 @vft @hi6 @kallT @bb2 @EF_slots @e1 @e2 @e3 @e4 @wt7 @hhw) ?_
   refine ⟨⟨(_, y.ht + 1), M7, if_neg (by simp; omega), by rw [if_neg (by simp; omega)]; rfl⟩, fun e he => ?_⟩
   rcases recE_mem.1 he with ⟨q1, q2⟩ | q1
   . obtain ⟨e0, e1'⟩ := e
     exact FE_mem.2 (.inr ⟨q2, (EF_mem.1 q1).2⟩)
   . exact sE1 [] (by simp) e q1
 . have i2 := decide_eq_false hw
   rw [show (Fst.newN hd p y).wk = (y.wk + wkH hd) % 2 ^ 256 from rfl, i2]
   have M7 := fin s6 (by rw [if_neg hw]) G6 W6 f6f f6b f6r rfl ⟨_, hn6, rfl⟩
   refine tqez (cj10 @vft @hi6 @kallT @bb2 @e1 @e2 @e3 @e4 @wtd @hhw) ?_
   exact ⟨⟨(s6, y.ht + 1), M7, if_neg (by simp; omega), by rw [if_neg (by simp; omega)]; rfl⟩, sE1 [] (by simp)⟩
theorem clone_nil {T : Tbl} : CallA prog G 27 [.p (.slice none 0 0)] T fun v T' es => v = .p (.slice none 0 0) /\ T' = T /\ es = [] := by
 refine CallA.eV 3 func27 ntmps27 results27 ?_
 refine sqax ?_
 refine ⟨.bool true, fun w _ => ?_, ?_⟩
 . have := Lib.run_eql_slice_nil (P := prog) w 24 71 none 0 0 0 0 (show prog.underlying 24 = some (.slice 71) from (by kernel_rfl))
   simpa [eqGuard] using this
 refine sqay ?_
 exact Vw.done ⟨rfl, rfl, rfl⟩
def Par.put (p : Par) (a : AV) : Par := { p with pa := a }
theorem Par.set {p : Par} (ok : p.Ok) (a : AV) : p.cs.set 3 a = (p.put a).cs := rfl
def z72 : List AV := w32 0 :: wint 0 :: w32 0 :: .p (.slice none 0 0) :: z68
def bF (c t : List AV) : List AV := c ++ t
def tzF : List AV := [wint 0, .p (.map none), .p (.slice none 0 0), .p (.pointer none)]
theorem ezF : [oW, oI, oW, AV.p (Value.slice none 0 0), oW, oB, oB, oB, oB, oB, oB, oB, oB, oB, oB, oB, oB, oB, oB, oB, oB, oB, oB, oB, oB, oB, oB, oB, oB, oB, oB, oB, oB, oB, oB, oB, oB, oB, oB, oB, oB, oB, oB, oB, oB, oB, oB, oB, oB, oB, oB, oB, oB, oB, oB, oB, oB, oB, oB, oB, oB, oB, oB, oB, oB, oB, oB, oB, oB, oW, oW, oW, oI, AV.p (Value.map none), AV.p (Value.slice none 0 0), AV.p (Value.pointer none)] = bF z72 tzF := rfl
theorem bF_rules : (bF z72 tzF).length = 76 /\ (∀ p : Par, p.Ok -> wrA (bF z72 tzF) 0 p.cs = bF p.cs tzF) /\ (∀ p : Par, p.Ok -> ∀ t, (bF p.cs t).length = 72 + t.length) /\ (∀ p : Par, p.Ok -> ∀ t a, (bF p.cs t).set 72 a = bF p.cs (t.set 0 a)) /\ (∀ p : Par, p.Ok -> ∀ t a, (bF p.cs t).set 73 a = bF p.cs (t.set 1 a)) /\ (∀ p : Par, p.Ok -> ∀ t a, (bF p.cs t).set 74 a = bF p.cs (t.set 2 a)) /\ (∀ p : Par, p.Ok -> ∀ t a, (bF p.cs t).set 75 a = bF p.cs (t.set 3 a)) := by
 have hs : ∀ p : Par, p.Ok -> ∀ t k a, (bF p.cs t).set (72 + k) a = bF p.cs (t.set k a) := fun p ok t k a => by
  have h := (Par.rules ok).1
  rw [bF, List.set_append_right _ _ (by omega), h, Nat.add_sub_cancel_left]; rfl
 refine ⟨rfl, fun p ok => ?_, fun p ok t => by rw [bF, List.length_append, (Par.rules ok).1], fun p ok t a => hs p ok t 0 a, fun p ok t a => hs p ok t 1 a, fun p ok t a => hs p ok t 2 a, fun p ok t a => hs p ok t 3 a⟩
 have h := (Par.rules ok).1
 rw [wrA_eq (by rw [h]; decide), h]; rfl
def Fst.mk0 (p : Par) (n room : Nat) : Fst := ⟨n + 4, n + 2, n + 3, p, room, .sl (n + 3) 0 1, n + 1, [(p.first.id, n + 1)], [n + 1], fun j => if j = n + 1 then some ⟨p.first, none, 0, wkH p.first, 0, true⟩ else none⟩
theorem FT_mk0 (T : Tbl) (p : Par) (rm : Nat) : FT (T ++ List.replicate 5 .gone) (Fst.mk0 p T.length rm) = T ++ [AObj.gone, AObj.cells 75 (Nd.cs ⟨p.first, none, 0, wkH p.first, 0, true⟩), AObj.map [(hv p.first.id, AV.ptr (T.length + 1) 0)], AObj.buf 72 1 [AV.ptr (T.length + 1) 0], AObj.cells 79 (Fst.mk0 p T.length rm).cs] := by
 refine List.ext_getElem? fun i => ?_
 rw [FT_at]
 by_cases hi : i < T.length
 . rw [List.getElem?_append_left hi, List.getElem?_append_left hi]
   cases T[i]? with
   | none => rfl
   | some o =>
     simp only [Option.map_some, Fst.ob, Fst.mk0]
     rw [if_neg (by omega), if_neg (by omega), if_neg (by omega), if_neg (by omega)]
 . obtain ⟨k, rfl⟩ : ∃ k, i = T.length + k := ⟨i - T.length, by omega⟩
   rw [List.getElem?_append_right (by omega), List.getElem?_append_right (by omega), Nat.add_sub_cancel_left]
   match k with
   | 0 => simp [Fst.ob, Fst.mk0]
   | 1 => simp [Fst.ob, Fst.mk0]
   | 2 => simp [Fst.ob, Fst.mk0, ent]
   | 3 => simp [Fst.ob, Fst.mk0, ptrs]
   | 4 => simp [Fst.ob, Fst.mk0]
   | k + 5 => simp
theorem fnew_ok {T : Tbl} {p : Par} (ok : p.Ok) {a : AV} (ok' : (p.put a).Ok) (hk : a.known = some [a]) (ho : a.one = true) (hcl : ∀ T, CallA prog G 27 [p.pa] T fun v T' es => v = a /\ T' = T /\ es = []) {room : Int} :
 CallA prog G 8 [.ag p.cs, wint room] T fun v T' es => if mayB p = true /\ 1 <= room /\ room <= 4096 then (v = .tu [.ptr (T.length + 4) 0, .p (.int .i64 0)] /\ T' = FT (T ++ List.replicate 5 .gone) (Fst.mk0 (p.put a) T.length room.toNat) /\ es = []) else (v = .tu [.p (.pointer none), .p (.int .i64 1)] /\ T' = T /\ es = []) := by
 have hr := Par.rules ok
 have hr' := Par.rules ok'
 have g0 := fun l => gn0 T (.cells 30 p.cs) l
 have g0' := fun l => gn0 T (.cells 30 (p.put a).cs) l
 have hset := Par.set ok a
 have hfr := Hdr.rules ok.f
 by_cases hc : mayB p = true /\ 1 <= room /\ room <= 4096
 . refine CallA.mono (K := fun v T' es => v = .tu [.ptr (T.length + 4) 0, .p (.int .i64 0)] /\ T' = FT (T ++ List.replicate 5 .gone) (Fst.mk0 (p.put a) T.length room.toNat) /\ es = []) ?_ fun v T' es h => by rw [if_pos hc]; exact h
   refine CallA.wfs fun wf => ?_
   have wt := wf.t
   refine CallA.eV 7 func8 ntmps8 results8 ?_
   refine sqax ?_
   refine tqaz (cj2 @hr @g0) ?_
   refine (pmay_ok ok).det' ?_
   obtain ⟨h1, h2, h3⟩ := hc
   have i2 := eq_false (show ¬ room < 1 by omega)
   have i3 := eq_false (show ¬ (4096 : Int) < room by omega)
   rw [h1]
   refine tqaz (cj5 @hr @g0 @i2 @i3 @bb2) ?_
   refine (hcl _).det' ?_
   refine tqaz (cj7 @hr @g0 @g0' @hset @hr' @hk @ho) ?_
   refine SemA.draw (fun i => true) [(0, true), (1, true), (2, true), (3, true), (5, true), (6, true), (4, false), (7, false), (8, true), (9, false), (10, true)] mixed (by kernel_rfl) ?_
   refine tqaz (cj4 @hr' @g0' @kallT @hfr) ?_
   have okf : (p.put a).first.Ok := ok.f
   refine (pid_ok okf).det' ?_
   refine tqaz (cj4 @hr' @g0' @kallT @hfr) ?_
   refine (hwork_ok okf).det' ?_
   have hid := (p.put a).first.id_len
   have h32 : List.take 32 (List.drop 0 (p.put a).first.id) = (p.put a).first.id := by rw [List.drop_zero, List.take_of_length_le (by omega)]
   have b2 := bN_rules.2.1 _ okf
   have b3 := bN_rules.2.2.1 _ okf
   have b4 := bN_rules.2.2.2.1 _ okf _ hid
   obtain ⟨x0, hx0⟩ : ∃ x0 : Nd, x0 = ⟨(p.put a).first, none, 0, 0, 0, false⟩ := ⟨_, rfl⟩
   have hx0c : bN (p.put a).first.cs (List.map by8 (p.put a).first.id) tzN = x0.cs := by
    have e : [oQ, oQ, oQ, oQ] = [lw 0 0, lw 0 1, lw 0 2, lw 0 3] := rfl
    simp only [List.cons.injEq, and_true] at e
    rw [hx0]
    simp only [bN, tzN, Nd.cs, Nd.tl, ptrO, e]; rfl
   have hx0r := Nd.rules (x := x0) (by rw [hx0]; exact okf)
   have hx1r := Nd.rules (x := { x0 with wk := wkH (p.put a).first }) (by rw [hx0]; exact okf)
   obtain ⟨x2, hx2⟩ : ∃ x2 : Nd, x2 = { x0 with wk := wkH (p.put a).first, best := true } := ⟨_, rfl⟩
   simp -dsimp +decide (disch := omega) only [v5q, ↓reduceIte, Nat.reduceSub, Nat.reduceAdd, Nat.reduceMul, Nat.reduceLT, Int.reduceAdd, Int.reduceSub, Int.reduceToNat, v2q, hr', g0', kallT, hfr, ez32, vh, hid, h32, ezN, bN_rules, b2, b3, b4, hx0c, hx0r, hx1r, vbg, <- hx2, (Hdr.rules okf).1]
   obtain ⟨rm, hrm⟩ : ∃ rm : Nat, room = (rm : Int) := ⟨room.toNat, by omega⟩
   subst hrm
   obtain ⟨s0, hs0⟩ : ∃ s0, s0 = Fst.mk0 (p.put a) T.length rm := ⟨_, rfl⟩
   have hx2r := Nd.rules (x := x2) (by rw [hx2, hx0]; exact okf)
   have hx2i : x2.h.id = (p.put a).first.id := by rw [hx2, hx0]
   rw [hx2i] at hx2r
   have hfl := flat8 (p.put a).first.id
   have g1 := fun a l => gn1 T a (.cells 75 x2.cs) l
   have hko : mapKO prog 26 [] (hv (p.put a).first.id) = True := mapKO_ent (l := []) (by simp) hid
   have hms : mset [] (hv (p.put a).first.id) (.ptr (T.length + 1) 0) = [(hv (p.put a).first.id, .ptr (T.length + 1) 0)] := by unfold mset mfind; rfl
   refine SemA.drawU [(4, .ptr (T.length + 4) 0), (5, .p (.int .i64 0))] (T ++ [.cells 30 (p.put a).cs, .cells 75 x2.cs, .map [(hv (p.put a).first.id, .ptr (T.length + 1) 0)], .buf 72 1 [.ptr (T.length + 1) 0], .cells 79 s0.cs]) [] 14 (fun i => decide (i < T.length + 2)) (.st 0 true (.st 1 true (.st 3 true (.st 4 true (.st 5 true (.st 6 true (.st 7 true (.st 10 true (.st 12 true (.alt 2 (.alt 8 (.st 9 true (.st 11 false (.st 13 true (.st 14 false (.st 15 true (.st 16 true .nil)))))) 11 (.st 8 false (.st 9 true (.st 13 true (.st 14 false (.st 15 true (.st 16 true .nil))))))) 11 (.st 2 false (.st 8 false (.st 9 true (.st 13 true (.st 14 false (.st 15 true (.st 16 true .nil))))))))))))))))) mixed (by kernel_rfl) ?_ ?_
   . have c2 := bF_rules.2.1 _ ok'
     have c3 := fun t => bF_rules.2.2.1 _ ok' t
     have c4 := fun t a => bF_rules.2.2.2.1 _ ok' t a
     have c5 := fun t a => bF_rules.2.2.2.2.1 _ ok' t a
     have c6 := fun t a => bF_rules.2.2.2.2.2.1 _ ok' t a
     have c7 := fun t a => bF_rules.2.2.2.2.2.2 _ ok' t a
     have c8 : ∀ t, t = [wint (rm : Int), .mp (T.length + 2), .sl (T.length + 3) 0 1, .ptr (T.length + 1) 0] -> bF (p.put a).cs t = s0.cs := fun t h => by rw [h, hs0]; rfl
     have kk : (∀ k j : Nat, decide (T.length + k < T.length + j) = decide (k < j)) /\ (∀ j : Nat, decide (T.length < T.length + j) = decide (0 < j)) := ⟨fun k j => by simp, fun j => by simp⟩
     have tt : tzF.length = 4 /\ (∀ x : AV, (tzF.set 0 x).length = 4) /\ (∀ x y : AV, ((tzF.set 0 x).set 1 y).length = 4) /\ (∀ x y z : AV, (((tzF.set 0 x).set 1 y).set 2 z).length = 4) := ⟨rfl, fun _ => rfl, fun _ _ => rfl, fun _ _ _ => rfl⟩
     simp -dsimp +decide (disch := omega) only [v5q, ↓reduceIte, Nat.reduceSub, Nat.reduceAdd, Nat.reduceMul, Nat.reduceLT, Int.reduceAdd, Int.reduceSub, Int.reduceToNat, v4q, vpu, vt, hr', g0', g1, kallT, hx2r, hfl, hko, hms, vh, hid, h32, hv_fold, ezF, bF_rules, c2, c3, c4, c5, c6, c7, keep_app, kk, tt]
     have c9 := c8 _ rfl
     have hwi := tbl_ren (permF_id T.length [0, 1, 3, 2, 4]) wt.2.1
     have hvn := vn (permF T.length [0, 1, 3, 2, 4]) T.length [0, 1, 3, 2, 4]
     have hix : idxO [0, 1, 3, 2, 4] 0 = some 0 /\ idxO [0, 1, 3, 2, 4] 1 = some 1 /\ idxO [0, 1, 3, 2, 4] 2 = some 3 /\ idxO [0, 1, 3, 2, 4] 3 = some 2 /\ idxO [0, 1, 3, 2, 4] 4 = some 4 := ⟨rfl, rfl, rfl, rfl, rfl⟩
     refine ⟨⟨?_, ?_⟩, ?_⟩
     . exact SeeL.done ⟨rfl, ⟨rfl, rfl, rfl⟩, by rw [show ∀ t, t = [wint (rm : Int), .mp (T.length + 2), .sl (T.length + 3) 0 1, .ptr (T.length + 1) 0] -> bF (p.put a).cs t = s0.cs from c8]; rfl, by simp⟩
     . exact SeeL.done ⟨rfl, ⟨rfl, rfl, rfl⟩, by rw [show ∀ t, t = [wint (rm : Int), .mp (T.length + 2), .sl (T.length + 3) 0 1, .ptr (T.length + 1) 0] -> bF (p.put a).cs t = s0.cs from c8]; rfl, by simp⟩
     . refine SeeL.perm T _ [0, 1, 3, 2, 4] rfl (by decide) (by simp) (Nat.le_refl _) hwi ?_
       have hrp : (p.put a).cs.map (AV.ren (permF T.length [0, 1, 3, 2, 4])) = (p.put a).cs := ren_all hr'.2.2.2.2.2.2.2.2.2.2.1
       have hrx : x2.cs.map (AV.ren (permF T.length [0, 1, 3, 2, 4])) = x2.cs := ren_all fun q => Nd.wo (by rw [hx2, hx0]; exact okf) fun i hi => by rw [hx2, hx0] at hi; cases hi
       have hrF : ∀ t : List AV, (bF (p.put a).cs t).map (AV.ren (permF T.length [0, 1, 3, 2, 4])) = bF (p.put a).cs (t.map (AV.ren (permF T.length [0, 1, 3, 2, 4]))) := fun t => by rw [bF, List.map_append, hrp]; rfl
       simp -dsimp +decide only [v5q, ↓reduceIte, Nat.reduceSub, Nat.reduceAdd, Nat.reduceMul, Nat.reduceLT, Int.reduceAdd, Int.reduceSub, Int.reduceToNat, ci, vt, hvn, hix, hrp, hrx, hrF, Option.map_some, List.getElem?_cons_zero, List.getElem?_cons_succ, Option.getD_some, List.map_cons, List.map_nil]
       have hcm : List.map (AV.ren (permF T.length [0, 1, 3, 2, 4])) ((((tzF.set 0 (AV.p (Value.int IntKind.i64 (rm : Int)))).set 1 (AV.mp (T.length + 3))).set 2 (AV.sl (T.length + 2) 0 1)).set 3 (AV.ptr (T.length + 1) 0)) = [wint (rm : Int), .mp (T.length + 2), .sl (T.length + 3) 0 1, .ptr (T.length + 1) 0] := by
        simp only [tzF, List.set_cons_zero, List.set_cons_succ, List.map_cons, List.map_nil, hvn, hix, Option.map_some, wint]
       exact SeeL.done ⟨rfl, ⟨rfl, rfl, rfl⟩, by rw [hcm, c9], by simp⟩
   . intro g tmp
     refine sqaz ?_
     refine Vw.keep (fun i => decide (i ≠ T.length)) (fun i hi => decide_eq_true (by omega)) (Vw.done ⟨rfl, ?_, rfl⟩)
     rw [show ((rm : Int)).toNat = rm from rfl, FT_mk0, <- hs0]
     have e : keepT (fun i => decide (i ≠ T.length)) (T ++ [AObj.cells 30 (p.put a).cs, AObj.cells 75 x2.cs, AObj.map [(hv (p.put a).first.id, AV.ptr (T.length + 1) 0)], AObj.buf 72 1 [AV.ptr (T.length + 1) 0], AObj.cells 79 s0.cs]) = T ++ [AObj.gone, AObj.cells 75 x2.cs, AObj.map [(hv (p.put a).first.id, AV.ptr (T.length + 1) 0)], AObj.buf 72 1 [AV.ptr (T.length + 1) 0], AObj.cells 79 s0.cs] := by
      refine List.ext_getElem? fun i => ?_
      rw [keepT_get]
      by_cases hi : i < T.length
      . rw [List.getElem?_append_left hi, List.getElem?_append_left hi]
        have : keepO (fun i => decide (i ≠ T.length)) i = id := by
         funext o; unfold keepO; simp only [decide_eq_true (show i ≠ T.length by omega)]; rfl
        rw [this]; simp
      . obtain ⟨k, rfl⟩ : ∃ k, i = T.length + k := ⟨i - T.length, by omega⟩
        rw [List.getElem?_append_right (by omega), List.getElem?_append_right (by omega), Nat.add_sub_cancel_left]
        cases k with
        | zero => simp [keepO]
        | succ k =>
          have : keepO (fun i => decide (i ≠ T.length)) (T.length + (k + 1)) = id := by
           funext o; unfold keepO; simp only [decide_eq_true (show T.length + (k + 1) ≠ T.length by omega)]; rfl
          rw [this, List.getElem?_cons_succ, List.getElem?_cons_succ]; simp
     rw [e, hx2, hx0]
 . refine CallA.mono (K := fun v T' es => v = .tu [.p (.pointer none), .p (.int .i64 1)] /\ T' = T /\ es = []) ?_ fun v T' es h => by rw [if_neg hc]; exact h
   refine CallA.wfs fun wf => ?_
   have wt := wf.t
   refine CallA.eV 7 func8 ntmps8 results8 ?_
   refine sqax ?_
   refine tqaz (cj2 @hr @g0) ?_
   refine (pmay_ok ok).det' ?_
   cases h1 : mayB p with
   | false =>
     refine tqaz (cj3 @hr @g0 @bb2) ?_
     exact Vw.cut ⟨rfl, rfl, rfl⟩
   | true =>
     by_cases h2 : room < 1
     . have i2 := eq_true h2
       refine tqaz (cj4 @hr @g0 @i2 @bb2) ?_
       exact Vw.cut ⟨rfl, rfl, rfl⟩
     . have i2 := eq_false h2
       have i3 := eq_true (show (4096 : Int) < room from Classical.byContradiction fun h4 => hc ⟨h1, by omega, by omega⟩)
       refine tqaz (cj5 @hr @g0 @i2 @i3 @bb2) ?_
       exact Vw.cut ⟨rfl, rfl, rfl⟩
theorem mk0_nd (p : Par) (n rm j : Nat) : (Fst.mk0 p n rm).nd j = if j = n + 1 then some ⟨p.first, none, 0, wkH p.first, 0, true⟩ else none := rfl
theorem mk0_root (p : Par) (n rm : Nat) : (Fst.mk0 p n rm).nd (n + 1) = some ⟨p.first, none, 0, wkH p.first, 0, true⟩ := by rw [mk0_nd, if_pos rfl]
theorem mk0_inv {p : Par} {n rm j : Nat} {x : Nd} (h : (Fst.mk0 p n rm).nd j = some x) : j = n + 1 /\ x = ⟨p.first, none, 0, wkH p.first, 0, true⟩ := by
 rw [mk0_nd] at h
 split at h
 . rename_i e; cases h; exact ⟨e, rfl⟩
 . cases h
theorem mk0_path (p : Par) (n rm : Nat) : Path (Fst.mk0 p n rm) [n + 1] := ⟨_, mk0_root p n rm, rfl, rfl⟩
theorem mk0_hd (p : Par) (n rm : Nat) : (Fst.mk0 p n rm).hd (n + 1) = p.first := Fst.hd_at (mk0_root p n rm)
theorem mk0_G (p : Par) (n rm : Nat) : (Fst.mk0 p n rm).G := by
 have hb : ∀ i, i ∈ (Fst.mk0 p n rm).bc ↔ i = n + 1 := fun i => List.mem_singleton
 have hon : (Fst.mk0 p n rm).onOf (n + 1) = none := Fst.onOf_at (mk0_root p n rm)
 refine ⟨by simp [Fst.mk0], ?_, fun i hi => ⟨_, (hb i).1 hi ▸ mk0_root p n rm⟩, by simp [Fst.mk0], fun i hi => ?_, ?_, fun i x j hx hi hj => ?_, fun i x r hx hr hi => ?_, fun i x hx hi => ?_, (hb _).2 rfl, fun i x r hx hi hr => ?_⟩
 . show [(p.first.id, n + 1)] = [n + 1].map _
   rw [List.map_cons, List.map_nil, mk0_hd]
 . rw [(hb i).1 hi]
   exact ⟨[], mk0_path p n rm, fun j hj => (hb j).2 (List.mem_singleton.1 hj)⟩
 . exact ⟨n + 1, rfl, fun i hi => by rw [(hb i).1 hi, hon]; simp⟩
 . obtain ⟨-, rfl⟩ := mk0_inv hx; cases hj
 . obtain ⟨rfl, rfl⟩ := mk0_inv hx
   have := Path.uniq hr (mk0_path p n rm)
   subst this
   show wkH p.first = sumH (hds _ [n + 1])
   rw [hds, List.map_cons, List.map_nil, mk0_hd]
   show _ = (0 + wkH p.first) % 2 ^ 256
   rw [Nat.zero_add, Nat.mod_eq_of_lt (wkH_lt _)]
 . obtain ⟨rfl, rfl⟩ := mk0_inv hx
   show 0 = ((([n + 1] : List Nat).filter _).length)
   simp [hon]
 . obtain ⟨rfl, rfl⟩ := mk0_inv hx
   have : r = [] := Path.uniq hr (mk0_path p n rm)
   subst this
   simp [Fst.mk0]
theorem mk0_W {T : Tbl} (wf : ∀ q : Nat -> Bool, (∀ i, i < T.length -> q i = false) -> T.map (AObj.wo q) = T) {p : Par} (ok : p.Ok) (rm : Nat) : FW (T ++ List.replicate 5 .gone) (Fst.mk0 p T.length rm) := by
 have hl : (T ++ List.replicate 5 AObj.gone).length = T.length + 5 := by simp
 have hn : ∀ k, k ≠ 1 -> (Fst.mk0 p T.length rm).nd (T.length + k) = none := fun k hk => by rw [mk0_nd, if_neg (by omega)]
 have hw : ∀ q, (List.replicate 5 AObj.gone).map (AObj.wo q) = List.replicate 5 AObj.gone := fun q => by rw [List.map_replicate]; rfl
 refine ⟨⟨by rw [hl]; show T.length + 4 < _; omega, by rw [hl]; show T.length + 2 < _; omega, by rw [hl]; show T.length + 3 < _; omega, by show T.length + 4 ≠ T.length + 2; omega, by show T.length + 4 ≠ T.length + 3; omega, by show T.length + 2 ≠ T.length + 3; omega, hn 4 (by omega), hn 2 (by omega), hn 3 (by omega), fun i x hx => by rw [hl, (mk0_inv hx).1]; omega⟩, ⟨ok, fun i x hx => by rw [(mk0_inv hx).2]; exact ok.f, fun q hq => ?_, by rw [hl]; show T.length + 1 < _; omega, fun x hx => ?_, fun i hi => ?_, fun i x j hx hj => by rw [(mk0_inv hx).2] at hj; cases hj⟩, ⟨fun q hq => ?_, ?_⟩, rfl, fun e he => ?_, fun i x j hx hj => (by rw [(mk0_inv hx).2] at hj; cases hj), (by show 1 <= 1000000; omega)⟩
 . show AV.wo q (.sl (T.length + 3) 0 1) = _
   rw [AV.wo, hq _ (by omega)]; rfl
 . rw [hl, List.mem_singleton.1 hx]; show T.length + 1 < _; omega
 . rw [hl, List.mem_singleton.1 hi]; omega
 . rw [List.map_append, hw, wf q fun i hi => hq i (by omega)]
 . rw [List.map_append, hw, wf _ fun i hi => by show (i == T.length + 3) = false; simp; omega]
 . rw [List.mem_singleton.1 he]; exact Hdr.id_len _
structure Fst.Fr (s : Fst) (k : Nat) : Prop where
 f : k ≠ s.f
 m : k ≠ s.m
 b : k ≠ s.b
 nd : s.nd k = none
theorem mk0_Fr {p : Par} {n rm k : Nat} (h : k <= n ∨ n + 5 <= k) : (Fst.mk0 p n rm).Fr k := ⟨by show k ≠ n + 4; omega, by show k ≠ n + 2; omega, by show k ≠ n + 3; omega, by rw [mk0_nd, if_neg (by omega)]⟩
theorem FT_fr {V : Tbl} {s : Fst} {k : Nat} (h : s.Fr k) : (FT V s)[k]? = V[k]? := by
 rw [FT_at]
 cases V[k]? with
 | none => rfl
 | some o => simp only [Option.map_some, Fst.ob, h.nd]; rw [if_neg h.f, if_neg h.m, if_neg h.b]
theorem FT_pre {T X : Tbl} {s : Fst} (h : ∀ k, k < T.length -> s.Fr k) : ∃ l, FT (T ++ X) s = T ++ l := by
 refine ⟨(FT (T ++ X) s).drop T.length, ?_⟩
 have : (FT (T ++ X) s).take T.length = T := by
  refine List.ext_getElem? fun i => ?_
  by_cases hi : i < T.length
  . rw [List.getElem?_take_of_lt hi, FT_fr (h i hi), List.getElem?_append_left hi]
  . rw [List.getElem?_eq_none (by rw [List.length_take]; omega), List.getElem?_eq_none (by omega)]
 have e := List.take_append_drop T.length (FT (T ++ X) s)
 rw [this] at e
 exact e.symm
theorem Drops.dom {s s' : Fst} {l : List (List UInt8)} (h : Drops s l s') : s'.f = s.f /\ s'.m = s.m /\ s'.b = s.b /\ s'.room = s.room /\ s'.top = s.top /\ s'.p = s.p /\ ∀ j x, s'.nd j = some x -> ∃ y, s.nd j = some y := by
 induction h with
 | done _ _ => exact ⟨rfl, rfl, rfl, rfl, rfl, rfl, fun j x hx => ⟨x, hx⟩⟩
 | @step s s' x y z k i p l h1 h2 h3 h4 h5 h6 h7 h8 h9 ih =>
   obtain ⟨a1, a2, a3, a4, a5, a6, a7⟩ := ih
   refine ⟨a1, a2, a3, a4, a5, a6, fun j v hv => ?_⟩
   obtain ⟨w, hw⟩ := a7 j v hv
   rw [drop_nd] at hw
   split at hw
   . rename_i e; exact ⟨y, e ▸ h8⟩
   . exact ⟨w, hw⟩
theorem turn_f (s : Fst) (lt lx : List Nat) (i : Nat) : (s.turn lt lx i).f = s.f /\ (s.turn lt lx i).m = s.m /\ (s.turn lt lx i).b = s.b /\ (s.turn lt lx i).room = s.room /\ (s.turn lt lx i).p = s.p /\ (s.turn lt lx i).bc = s.bc /\ (s.turn lt lx i).es = s.es /\ (s.turn lt lx i).top = i /\ (s.turn lt lx i).oa = s.oa := ⟨rfl, rfl, rfl, rfl, rfl, rfl, rfl, rfl, rfl⟩
theorem addN_f (s : Fst) (hd : Hdr) (i p : Nat) (y : Nd) : (s.addN hd i p y).f = s.f /\ (s.addN hd i p y).m = s.m /\ (s.addN hd i p y).b = s.b /\ (s.addN hd i p y).room = s.room /\ (s.addN hd i p y).p = s.p /\ (s.addN hd i p y).bc = s.bc ++ [i] /\ (s.addN hd i p y).es = s.es ++ [(hd.id, i)] /\ (s.addN hd i p y).top = s.top := by
 unfold Fst.addN Fst.setN
 generalize Fst.newN hd p y = x
 exact ⟨rfl, rfl, rfl, rfl, rfl, rfl, rfl, rfl⟩
theorem if_dom {s s2 : Fst} {lt lx : List Nat} {i : Nat} {c : Prop} [Decidable c] {hd : Hdr} {p : Nat} {y : Nd} (h : s2 = if c then (s.addN hd i p y).turn lt lx i else s.addN hd i p y) : s2.f = s.f /\ s2.m = s.m /\ s2.b = s.b /\ s2.room = s.room /\ s2.p = s.p /\ ∀ j x, s2.nd j = some x -> ∃ y', (s.addN hd i p y).nd j = some y' := by
 obtain ⟨f1, f2, f3, f4, f5, f6, f7, f8⟩ := addN_f s hd i p y
 generalize s.addN hd i p y = s1 at *
 by_cases hc : c
 . rw [if_pos hc] at h
   obtain ⟨t1, t2, t3, t4, t5, t6, t7, t8, t9⟩ := turn_f s1 lt lx i
   rw [<- h] at t1 t2 t3 t4 t5
   exact ⟨t1.trans f1, t2.trans f2, t3.trans f3, t4.trans f4, t5.trans f5, fun j x hx => by rw [h] at hx; obtain ⟨x0, h0, _⟩ := turn_nd hx; exact ⟨x0, h0⟩⟩
 . rw [if_neg hc] at h
   rw [h]
   exact ⟨f1, f2, f3, f4, f5, fun j x hx => ⟨x, hx⟩⟩
theorem AddR.dom {N : Nat} {s s' : Fst} {hd : Hdr} {ht : Nat} {l : List (List UInt8)} {e : Int} (h : AddR N s hd s' ht l e) : s'.f = s.f /\ s'.m = s.m /\ s'.b = s.b /\ s'.room = s.room /\ s'.p = s.p /\ ∀ k, k < N -> s.nd k = Option.none -> s'.nd k = Option.none := by
 cases h with
 | known _ _ => exact ⟨rfl, rfl, rfl, rfl, rfl, fun k _ h => h⟩
 | none _ _ => exact ⟨rfl, rfl, rfl, rfl, rfl, fun k _ h => h⟩
 | wrong _ _ _ _ => exact ⟨rfl, rfl, rfl, rfl, rfl, fun k _ h => h⟩
 | @right p i r rt y z s2 _ _ h1 h2 h3 h4 h5 h6 h6' h7 h8 h9 h10 =>
   obtain ⟨a1, a2, a3, a4, a5, a6, a7⟩ := h10.dom
   obtain ⟨k1, k2, k3, k4, k5, k6⟩ := if_dom h9
   refine ⟨a1.trans k1, a2.trans k2, a3.trans k3, a4.trans k4, a6.trans k5, fun k hk hn => ?_⟩
   cases hx : s'.nd k with
   | none => rfl
   | some x =>
     obtain ⟨v, hv⟩ := a7 k x hx
     obtain ⟨w, hw⟩ := k6 k v hv
     rw [addN_nd] at hw
     split at hw
     . omega
     . split at hw
       . rename_i e; rw [e, h5] at hn; cases hn
       . rw [hn] at hw; cases hw
theorem Fst.Fr.add {N : Nat} {s s' : Fst} {hd : Hdr} {ht k : Nat} {l : List (List UInt8)} {e : Int} (h : s.Fr k) (hk : k < N) (ha : AddR N s hd s' ht l e) : s'.Fr k := by
 obtain ⟨a1, a2, a3, -, -, a4⟩ := ha.dom
 exact ⟨by rw [a1]; exact h.f, by rw [a2]; exact h.m, by rw [a3]; exact h.b, a4 k hk h.nd⟩
theorem Drops.len {s s' : Fst} {l : List (List UInt8)} (h : Drops s l s') : s'.bc.length <= s.bc.length := by
 induction h with
 | done _ _ => exact Nat.le_refl _
 | @step s s' x y z k i p l h1 h2 h3 h4 h5 h6 h7 h8 h9 ih =>
   refine Nat.le_trans ih ?_
   show (s.bc.eraseIdx k).length <= _
   exact List.length_eraseIdx_le _ _
theorem AddR.len {N : Nat} {s s' : Fst} {hd : Hdr} {ht : Nat} {l : List (List UInt8)} {e : Int} (h : AddR N s hd s' ht l e) : s'.bc.length <= s.bc.length + 1 := by
 cases h with
 | known _ _ => omega
 | none _ _ => omega
 | wrong _ _ _ _ => omega
 | @right p i r rt y z s2 _ _ h1 h2 h3 h4 h5 h6 h6' h7 h8 h9 h10 =>
   refine Nat.le_trans h10.len ?_
   obtain ⟨f1, f2, f3, f4, f5, f6, f7, f8⟩ := addN_f s hd i p y
   generalize s.addN hd i p y = s1 at *
   rw [h9]
   generalize (y.wk + wkH hd) % 2 ^ 256 = W
   by_cases hw : z.wk < W
   . rw [if_pos hw, (turn_f s1 (s.top :: rt) (i :: p :: r) i).2.2.2.2.2.1, f6]; simp
   . rw [if_neg hw, f6]; simp
theorem turn_at {s : Fst} {lt lx : List Nat} {i j : Nat} {x : Nd} (h : s.nd j = some x) : (s.turn lt lx i).nd j = some { x with best := if j ∈ lx then true else if j ∈ lt then false else x.best } := by
 show ((s.setB lt false).setB lx true).nd j = _
 rw [Fst.setB_some (Fst.setB_some h)]
 congr 1
 by_cases h1 : j ∈ lx <;> by_cases h2 : j ∈ lt <;> simp [h1, h2]
theorem Drops.stop {s s' : Fst} {l : List (List UInt8)} {x : Nd} (h : Drops s l s') (hx : s.nd s.top = some x) (hl : s.bc.length <= x.ht + 1 + s.room) : l = [] /\ s' = s := by
 cases h with
 | done _ _ => exact ⟨rfl, rfl⟩
 | step h1 h2 => rw [hx] at h1; cases h1; omega
structure Added (s : Fst) (hd : Hdr) (p : Nat) (r rt : List Nat) (y : Nd) (c : Bool) (i : Nat) (s2 : Fst) : Prop where
 n : ∀ j x, s.nd j = some x -> j < i
 bc : s2.bc = s.bc ++ [i]
 es : s2.es = s.es ++ [(hd.id, i)]
 par : s2.p = s.p
 room : s2.room = s.room
 top : s2.top = if c then i else s.top
 new : s2.nd i = some ⟨hd, some p, y.ht + 1, (y.wk + wkH hd) % 2 ^ 256, 0, c⟩
 on : s2.nd p = some { y with kids := y.kids + 1, best := if c then true else y.best }
 o : ∀ j x, s.nd j = some x -> j ≠ p -> s2.nd j = some { x with best := if c then (if j ∈ i :: p :: r then true else if j ∈ s.top :: rt then false else x.best) else x.best }
theorem addR_at {N : Nat} {s s' : Fst} {hd : Hdr} {ht p : Nat} {r rt : List Nat} {l : List (List UInt8)} {e : Int} {y z : Nd} (h : AddR N s hd s' ht l e) (hl : s.look hd.id = none) (hp : s.look hd.prev = some p) (hpath : Path s (p :: r)) (hr : rightE s.p (hds s (p :: r)) hd = 0) (hy : s.nd p = some y) (hz : s.nd s.top = some z) (hrt : Path s (s.top :: rt)) :
 e = 0 /\ ht = y.ht + 1 /\ ∃ i s2, Added s hd p r rt y (decide (z.wk < (y.wk + wkH hd) % 2 ^ 256)) i s2 /\ Drops s2 l s' := by
 cases h with
 | known h1 _ => rw [hl] at h1; cases h1
 | none _ h2 => rw [hp] at h2; cases h2
 | wrong h1 h2 h3 h4 =>
   rw [hp] at h2; cases h2
   have := Path.uniq hpath h3; subst this
   exact absurd hr h4
 | @right p' i r' rt' y' z' s2 _ _ h1 h2 h3 h4 h5 h6 h6' h7 h8 h9 h10 =>
   rw [hp] at h2; cases h2
   have := Path.uniq hpath h3; subst this
   rw [hy] at h5; cases h5
   rw [hz] at h7; cases h7
   have := Path.uniq hrt h8; subst this
   refine ⟨rfl, rfl, i, s2, ?_, h10⟩
   obtain ⟨f1, f2, f3, f4, f5, f6, f7, f8⟩ := addN_f s hd i p y
   have hpi := h6 p y hy
   have a1 : (s.addN hd i p y).nd i = some ⟨hd, some p, y.ht + 1, (y.wk + wkH hd) % 2 ^ 256, 0, false⟩ := by rw [addN_nd, if_pos rfl]; rfl
   have a2 : (s.addN hd i p y).nd p = some { y with kids := y.kids + 1 } := by rw [addN_nd, if_neg (by omega), if_pos rfl]
   have a3 : ∀ j x, s.nd j = some x -> j ≠ p -> (s.addN hd i p y).nd j = some x := fun j x hx hj => by
    have := h6 j x hx
    rw [addN_nd, if_neg (by omega), if_neg hj, hx]
   generalize s.addN hd i p y = s1 at *
   generalize hW : (y.wk + wkH hd) % 2 ^ 256 = W at *
   by_cases hw : z.wk < W
   . rw [if_pos hw] at h9
     obtain ⟨t1, t2, t3, t4, t5, t6, t7, t8, t9⟩ := turn_f s1 (s.top :: rt) (i :: p :: r) i
     rw [decide_eq_true hw, h9]
     refine ⟨h6, t6.trans f6, t7.trans f7, t5.trans f5, t4.trans f4, t8, ?_, ?_, fun j x hx hj => ?_⟩
     . rw [turn_at a1, hW]; simp
     . rw [turn_at a2]; simp
     . rw [turn_at (a3 j x hx hj)]; rfl
   . rw [if_neg hw] at h9
     rw [decide_eq_false hw, h9]
     refine ⟨h6, f6, f7, f5, f4, f8, ?_, ?_, fun j x hx hj => ?_⟩
     . rw [a1, hW]
     . rw [a2]; rfl
     . rw [a3 j x hx hj]; rfl
theorem mod4 : (2 + 2) % 2 ^ 256 = 4 := by decide
theorem mod6 : (4 + 2) % 2 ^ 256 = 6 := by decide
theorem works_run {p : Par} {n : Nat} {a b c d : Hdr} {s1 s2 s3 s4 : Fst} {t1 t2 t3 t4 : Nat} {g1 g2 g3 g4 : List (List UInt8)} {e1 e2 e3 e4 : Int}
 (wf : wkH p.first = 2) (wa : wkH a = 2) (wb : wkH b = 2) (wc : wkH c = 2) (wd : wkH d = 2)
 (na : ¬ p.first.id = a.id) (nb : ¬ p.first.id = b.id /\ ¬ a.id = b.id) (nc : ¬ p.first.id = c.id /\ ¬ a.id = c.id /\ ¬ b.id = c.id) (nd : ¬ p.first.id = d.id /\ ¬ a.id = d.id /\ ¬ b.id = d.id /\ ¬ c.id = d.id)
 (pa : a.prev = p.first.id) (pb : b.prev = p.first.id) (pc : c.prev = b.id) (pd : d.prev = a.id)
 (ra : rightE p [p.first] a = 0) (rb : rightE p [p.first] b = 0) (rc : rightE p [p.first, b] c = 0) (rd : rightE p [p.first, a] d = 0)
 {N1 N2 N3 N4 : Nat} (h1 : AddR N1 (Fst.mk0 p n 1) a s1 t1 g1 e1) (h2 : AddR N2 s1 b s2 t2 g2 e2) (h3 : AddR N3 s2 c s3 t3 g3 e3) (h4 : AddR N4 s3 d s4 t4 g4 e4) :
 (e1 = 0 /\ e2 = 0 /\ e3 = 0 /\ e4 = 0 /\ t3 = 2 /\ g4 = [d.id]) /\ (s1.room = 1 /\ s2.room = 1 /\ s3.room = 1 /\ s1.bc.length = 2 /\ s2.bc.length = 3 /\ s3.bc.length = 4) /\ (∃ x, s2.nd s2.top = some x /\ x.h = a /\ x.ht = 1) /\ ∃ x, s3.nd s3.top = some x /\ x.h = c /\ x.ht = 2 := by
 obtain ⟨r, hr⟩ : ∃ r, r = n + 1 := ⟨_, rfl⟩
 have n0 : (Fst.mk0 p n 1).nd r = some ⟨p.first, none, 0, 2, 0, true⟩ := by rw [hr, mk0_root, wf]
 have b0 : (Fst.mk0 p n 1).bc = [r] := by rw [hr]; rfl
 have e0 : (Fst.mk0 p n 1).es = [(p.first.id, r)] := by rw [hr]; rfl
 have p0 : (Fst.mk0 p n 1).p = p := rfl
 have m0 : (Fst.mk0 p n 1).room = 1 := rfl
 have o0 : (Fst.mk0 p n 1).top = r := hr.symm
 generalize Fst.mk0 p n 1 = s0 at *
 have q0 : Path s0 [r] := ⟨_, n0, rfl, rfl⟩
 obtain ⟨rfl, -, i1, u1, A1, D1⟩ := addR_at h1 (p := r) (r := []) (rt := []) (by simp [Fst.look, e0, na]) (by simp [Fst.look, e0, pa]) q0 (by rw [p0, show hds s0 [r] = [p.first] by simp [hds, Fst.hd_at n0]]; exact ra) n0 (by rw [o0]; exact n0) (by rw [o0]; exact q0)
 obtain ⟨x1, x2, x3, x4, x5, x6, x7, x8, x9⟩ := A1
 simp only [wa, mod4, show decide (2 < 4) = true from rfl, if_true, o0, b0, e0, List.cons_append, List.nil_append] at x1 x2 x3 x4 x5 x6 x7 x8 x9
 have hri := x1 r _ n0
 obtain ⟨rfl, rfl⟩ := D1.stop (by rw [x6]; exact x7) (by rw [x2, x5, m0]; simp)
 have q1 : Path s1 [r] := ⟨_, x8, rfl, rfl⟩
 have q1a : Path s1 [i1, r] := ⟨⟨_, x7, rfl, rfl⟩, q1⟩
 obtain ⟨rfl, -, i2, u2, A2, D2⟩ := addR_at h2 (p := r) (r := []) (rt := [r]) (by simp [Fst.look, x3, nb]) (by simp [Fst.look, x3, pb]) q1 (by rw [x4, p0, show hds s1 [r] = [p.first] by simp [hds, Fst.hd_at x8]]; exact rb) x8 (by rw [x6]; exact x7) (by rw [x6]; exact q1a)
 obtain ⟨y1, y2, y3, y4, y5, y6, y7, y8, y9⟩ := A2
 simp only [wb, mod4, show decide (4 < 4) = false from rfl, if_false, x6, x2, x3, Bool.false_eq_true, List.cons_append, List.nil_append] at y1 y2 y3 y4 y5 y6 y7 y8 y9
 have hri2 := y1 r _ x8
 have hi12 := y1 i1 _ x7
 have z1 := y9 i1 _ x7 (by omega)
 obtain ⟨rfl, rfl⟩ := D2.stop (by rw [y6]; exact z1) (by rw [y2, y5, x5, m0]; simp)
 have q2 : Path s2 [r] := ⟨_, y8, rfl, rfl⟩
 have q2a : Path s2 [i1, r] := ⟨⟨_, z1, rfl, rfl⟩, q2⟩
 have q2b : Path s2 [i2, r] := ⟨⟨_, y7, rfl, rfl⟩, q2⟩
 obtain ⟨rfl, rfl, i3, u3, A3, D3⟩ := addR_at h3 (p := i2) (r := [r]) (rt := [r]) (by simp [Fst.look, y3, nc]) (by simp [Fst.look, y3, pc, nb]) q2b (by rw [y4, x4, p0, show hds s2 [i2, r] = [p.first, b] by simp [hds, Fst.hd_at y8, Fst.hd_at y7]]; exact rc) y7 (by rw [y6]; exact z1) (by rw [y6]; exact q2a)
 obtain ⟨v1, v2, v3, v4, v5, v6, v7, v8, v9⟩ := A3
 simp only [wc, mod6, show decide (4 < 6) = true from rfl, if_true, y6, y2, y3, List.cons_append, List.nil_append] at v1 v2 v3 v4 v5 v6 v7 v8 v9
 have hri3 := v1 r _ y8
 have hi13 := v1 i1 _ z1
 have hi23 := v1 i2 _ y7
 have k1 := v9 i1 _ z1 (by omega)
 have k0 := v9 r _ y8 (by omega)
 simp only [List.mem_cons, List.not_mem_nil, or_false, show ¬ i1 = i3 by omega, show ¬ i1 = i2 by omega, show ¬ i1 = r by omega, false_or, if_false, true_or, if_true, or_true] at k1 k0
 obtain ⟨rfl, rfl⟩ := D3.stop (by rw [v6]; exact v7) (by rw [v2, v5, y5, x5, m0]; simp)
 have q3 : Path s3 [r] := ⟨_, k0, rfl, rfl⟩
 have q3a : Path s3 [i1, r] := ⟨⟨_, k1, rfl, rfl⟩, q3⟩
 have q3c : Path s3 [i3, i2, r] := ⟨⟨_, v7, rfl, rfl⟩, ⟨_, v8, rfl, rfl⟩, q3⟩
 obtain ⟨rfl, -, i4, u4, A4, D4⟩ := addR_at h4 (p := i1) (r := [r]) (rt := [i2, r]) (by simp [Fst.look, v3, nd]) (by simp [Fst.look, v3, pd, na]) q3a (by rw [v4, y4, x4, p0, show hds s3 [i1, r] = [p.first, a] by simp [hds, Fst.hd_at k0, Fst.hd_at k1]]; exact rd) k1 (by rw [v6]; exact v7) (by rw [v6]; exact q3c)
 obtain ⟨w1, w2, w3, w4, w5, w6, w7, w8, w9⟩ := A4
 simp only [wd, mod6, show decide (6 < 6) = false from rfl, if_false, v6, v2, v3, Bool.false_eq_true, List.cons_append, List.nil_append] at w1 w2 w3 w4 w5 w6 w7 w8 w9
 have hri4 := w1 r _ k0
 have hi14 := w1 i1 _ k1
 have hi24 := w1 i2 _ v8
 have hi34 := w1 i3 _ v7
 have l0 := w9 r _ k0 (by omega)
 have l2 := w9 i2 _ v8 (by omega)
 have l3 := w9 i3 _ v7 (by omega)
 refine ⟨⟨rfl, rfl, rfl, rfl, rfl, ?_⟩, ⟨by rw [x5, m0], by rw [y5, x5, m0], by rw [v5, y5, x5, m0], by rw [x2]; rfl, by rw [y2]; rfl, by rw [v2]; rfl⟩, ⟨_, by rw [y6]; exact z1, rfl, rfl⟩, ⟨_, by rw [v6]; exact v7, rfl, rfl⟩⟩
 cases D4 with
 | done f1 f2 =>
   rw [w6, l3] at f1
   cases f1
   rw [w2, w5, v5, y5, x5, m0] at f2
   simp at f2
 | @step _ _ x y z k i q l f1 f2 f3 f4 f5 f6 f7 f8 f9 =>
   have him : i ∈ [r, i1, i2, i3, i4] := by rw [<- w2]; exact List.mem_of_getElem? f3
   have hi : i = i4 := by
    simp only [List.mem_cons, List.not_mem_nil, or_false] at him
    rcases him with rfl | rfl | rfl | rfl | rfl
    . rw [Fst.leaf, l0] at f5; simp at f5
    . rw [Fst.leaf, w8] at f5; simp at f5
    . rw [Fst.leaf, l2] at f5; simp at f5
    . rw [Fst.leaf, l3] at f5; simp at f5
    . rfl
   subst hi
   rw [w7] at f6
   cases f6
   cases f7
   have hk : k < 5 := by have := (List.getElem?_eq_some_iff.1 f3).1; rw [w2] at this; simpa using this
   have := f9.stop (x := _) (by rw [drop_nd, if_neg (show ¬ (u4.drop k _ i1 y).top = i1 by show ¬ u4.top = i1; rw [w6]; omega)]; show u4.nd u4.top = _; rw [w6]; exact l3) (by show (u4.bc.eraseIdx k).length <= _ + 1 + u4.room; rw [w2, w5, v5, y5, x5, m0, List.length_eraseIdx_of_lt (by simpa using hk)]; simp)
   rw [this.1]
abbrev tP : Par := easyP 10 10
theorem tP_ok : tP.Ok := easy_ok' (by omega)
theorem tP_may : mayB tP = true := easy_may (by decide) (by decide) (by decide) (by decide)
def tR (k : UInt8) : List UInt8 := k :: List.replicate 31 0
def iF : List UInt8 := [61, 203, 117, 189, 137, 197, 20, 104, 21, 221, 192, 209, 215, 49, 76, 183, 70, 25, 253, 247, 43, 253, 106, 115, 55, 132, 161, 91, 255, 182, 29, 187]
def iA : List UInt8 := [106, 242, 196, 185, 193, 26, 122, 86, 70, 130, 119, 241, 46, 98, 13, 96, 148, 160, 143, 137, 190, 224, 233, 229, 139, 2, 58, 249, 22, 181, 21, 105]
def iB : List UInt8 := [185, 205, 238, 104, 96, 244, 165, 26, 120, 157, 228, 37, 91, 184, 33, 58, 209, 210, 181, 242, 56, 129, 124, 205, 54, 55, 155, 120, 149, 253, 36, 22]
def iC : List UInt8 := [19, 82, 22, 76, 160, 32, 110, 27, 144, 150, 244, 230, 183, 104, 229, 77, 66, 73, 231, 93, 25, 128, 100, 11, 144, 17, 47, 234, 254, 48, 12, 84]
def iD : List UInt8 := [141, 60, 227, 35, 89, 122, 193, 72, 155, 208, 135, 157, 210, 178, 56, 17, 224, 196, 66, 204, 181, 237, 218, 16, 98, 119, 216, 185, 220, 26, 176, 82]
def hA : Hdr := ⟨1, iF, tR 1, 2000, 545259519, 1⟩
def hB : Hdr := ⟨1, iF, tR 2, 2000, 545259519, 1⟩
def hC : Hdr := ⟨1, iB, tR 3, 2010, 545259519, 0⟩
def hD : Hdr := ⟨1, iA, tR 4, 2010, 545259519, 1⟩
def tT : Nat := 0x7fffff * 2 ^ 232
set_option maxRecDepth 100000 in
theorem id_F : tP.first.id = iF := by decide +kernel
set_option maxRecDepth 100000 in
theorem id_A : hA.id = iA := by decide +kernel
set_option maxRecDepth 100000 in
theorem id_B : hB.id = iB := by decide +kernel
set_option maxRecDepth 100000 in
theorem id_C : hC.id = iC := by decide +kernel
set_option maxRecDepth 100000 in
theorem id_D : hD.id = iD := by decide +kernel
theorem ex_t : ofT (545259519 : UInt32).toNat = some tT := by decide +kernel
set_option maxRecDepth 100000 in
theorem no_A : meetsB { hA with nonce := 0 } tT = false := by decide +kernel
set_option maxRecDepth 100000 in
theorem no_B : meetsB { hB with nonce := 0 } tT = false := by decide +kernel
set_option maxRecDepth 100000 in
theorem no_D : meetsB { hD with nonce := 0 } tT = false := by decide +kernel
theorem me_A : meetsB hA tT = true := by rw [meetsB, id_A]; decide +kernel
theorem me_B : meetsB hB tT = true := by rw [meetsB, id_B]; decide +kernel
theorem me_C : meetsB hC tT = true := by rw [meetsB, id_C]; decide +kernel
theorem me_D : meetsB hD tT = true := by rw [meetsB, id_D]; decide +kernel
theorem tbits {hs : List Hdr} {la : Hdr} (hl : hs.getLast? = some la) (hb : la.bits = 545259519) (hn : hs.length % 10 ≠ 0) : bitsB tP hs = 545259519 := by
 unfold bitsB
 rw [hl]
 simp only [tP_may]
 rw [if_neg (by decide), if_pos (by exact hn), hb]
theorem mine2 {hs : List Hdr} {la h : Hdr} {time : UInt32} {root : List UInt8} (hl : hs.getLast? = some la) (hb : la.bits = 545259519) (hn : hs.length % 10 ≠ 0) (he : h = ⟨1, la.id, root, time, 545259519, 1⟩) (h0 : meetsB { h with nonce := 0 } tT = false) (h1 : meetsB h tT = true) : mineB tP hs time root 200 = (h, true) := by
 unfold mineB
 rw [hl, tbits hl hb hn]
 simp only [ex_t]
 rw [show (200 : UInt32).toNat = 197 + 1 + 1 + 1 from rfl, mineAt, if_neg, mineAt, if_pos]
 . rw [he]; rfl
 . rw [he] at h1; exact h1
 . rw [he] at h0; rw [Bool.not_eq_true]; exact h0
theorem mine1 {hs : List Hdr} {la h : Hdr} {time : UInt32} {root : List UInt8} (hl : hs.getLast? = some la) (hb : la.bits = 545259519) (hn : hs.length % 10 ≠ 0) (he : h = ⟨1, la.id, root, time, 545259519, 0⟩) (h1 : meetsB h tT = true) : mineB tP hs time root 200 = (h, true) := by
 unfold mineB
 rw [hl, tbits hl hb hn]
 simp only [ex_t]
 rw [show (200 : UInt32).toNat = 198 + 1 + 1 from rfl, mineAt, if_pos]
 . rw [he]; rfl
 . rw [he] at h1; exact h1
theorem mine_A : mineB tP [tP.first] 2000 (tR 1) 200 = (hA, true) := mine2 (la := tP.first) rfl rfl (by decide) (by rw [id_F]; rfl) no_A me_A
theorem mine_B : mineB tP [tP.first] 2000 (tR 2) 200 = (hB, true) := mine2 (la := tP.first) rfl rfl (by decide) (by rw [id_F]; rfl) no_B me_B
theorem mine_C : mineB tP [tP.first, hB] 2010 (tR 3) 200 = (hC, true) := mine1 (la := hB) rfl rfl (by decide) (by rw [id_B]; rfl) me_C
theorem mine_D : mineB tP [tP.first, hA] 2010 (tR 4) 200 = (hD, true) := mine2 (la := hA) rfl rfl (by decide) (by rw [id_A]; rfl) no_D me_D
theorem right0 {hs : List Hdr} {la h : Hdr} (hl : hs.getLast? = some la) (hb : la.bits = 545259519) (hn : hs.length % 10 ≠ 0) (hp : h.prev = la.id) (hb' : h.bits = 545259519) (hm : meetsB h tT = true) (B : Nat) (ht : ∀ x ∈ hs, x.time.toNat <= B) (hB : B < h.time.toNat) : rightE tP hs h = 0 := by
 have hg : Good tP hs h := by
  refine ⟨?_, by rw [tbits hl hb hn, hb'], ?_, Nat.lt_of_le_of_lt (med_le ht) hB⟩
  . rw [prevB, hl]; exact decide_eq_true hp
  . rw [workB, hb', ex_t]; exact hm
 rw [right_good tP_may hg]; rfl
theorem right_A : rightE tP [tP.first] hA = 0 := right0 rfl rfl (by decide) id_F.symm rfl me_A 1000 (by decide) (by decide)
theorem right_B : rightE tP [tP.first] hB = 0 := right0 rfl rfl (by decide) id_F.symm rfl me_B 1000 (by decide) (by decide)
theorem right_C : rightE tP [tP.first, hB] hC = 0 := right0 rfl rfl (by decide) id_B.symm rfl me_C 2000 (by decide) (by decide)
theorem right_D : rightE tP [tP.first, hA] hD = 0 := right0 rfl rfl (by decide) id_A.symm rfl me_D 2000 (by decide) (by decide)
theorem wk2 {h : Hdr} (hb : h.bits = 545259519) : wkH h = 2 := by rw [wkH, hb]; decide +kernel
theorem tP_run {n : Nat} {s1 s2 s3 s4 : Fst} {t1 t2 t3 t4 : Nat} {g1 g2 g3 g4 : List (List UInt8)} {e1 e2 e3 e4 : Int}
 {N1 N2 N3 N4 : Nat} (h1 : AddR N1 (Fst.mk0 tP n 1) hA s1 t1 g1 e1) (h2 : AddR N2 s1 hB s2 t2 g2 e2) (h3 : AddR N3 s2 hC s3 t3 g3 e3) (h4 : AddR N4 s3 hD s4 t4 g4 e4) :
 (e1 = 0 /\ e2 = 0 /\ e3 = 0 /\ e4 = 0 /\ t3 = 2 /\ g4 = [hD.id]) /\ (s1.room = 1 /\ s2.room = 1 /\ s3.room = 1 /\ s1.bc.length = 2 /\ s2.bc.length = 3 /\ s3.bc.length = 4) /\ (∃ x, s2.nd s2.top = some x /\ x.h = hA /\ x.ht = 1) /\ ∃ x, s3.nd s3.top = some x /\ x.h = hC /\ x.ht = 2 := by
 refine works_run (wk2 rfl) (wk2 rfl) (wk2 rfl) (wk2 rfl) (wk2 rfl) ?_ ?_ ?_ ?_ id_F.symm id_F.symm id_B.symm id_A.symm right_A right_B right_C right_D h1 h2 h3 h4
 . rw [id_F, id_A]; decide
 . rw [id_F, id_A, id_B]; decide
 . rw [id_F, id_A, id_B, id_C]; decide
 . rw [id_F, id_A, id_B, id_C, id_D]; decide
end Go.Proofs.YtfpjalgfnjjcmaaGreatDoor
namespace Go.Proofs.YtfpjalgfnjjcmaaGreatDoor
open Go.E Go.Proofs.YtfpjalgfnjjcmaaGreatDoor.Tryz Go.Proofs.Tryz
theorem tP_put : tP.put (.p (.slice none 0 0)) = tP := rfl
theorem ez72 : [oW, oI, oW, AV.p (Value.slice none 0 0), oW, oB, oB, oB, oB, oB, oB, oB, oB, oB, oB, oB, oB, oB, oB, oB, oB, oB, oB, oB, oB, oB, oB, oB, oB, oB, oB, oB, oB, oB, oB, oB, oB, oB, oB, oB, oB, oB, oB, oB, oB, oB, oB, oB, oB, oB, oB, oB, oB, oB, oB, oB, oB, oB, oB, oB, oB, oB, oB, oB, oB, oB, oB, oB, oB, oW, oW, oW] = z72 := rfl
theorem vz72 : z72.length = 72 /\ (∀ p : Par, p.Ok -> wrA z72 0 p.cs = p.cs) := ⟨rfl, fun p ok => wrA_all (by rw [(Par.rules ok).1]; rfl)⟩
def z136 : List AV := z68 ++ z68
theorem ez136 : (List.replicate 2 z68).flatten = z136 := rfl
theorem vz136 {x y : Hdr} (ox : x.Ok) (oy : y.Ok) : wrA (wrA z136 0 x.cs) 68 y.cs = x.cs ++ y.cs := by
 have lx := Hdr.cs_len ox
 have ly := Hdr.cs_len oy
 have e : z136 = [zH, zH].flatMap Hdr.cs := rfl
 have w : ∀ q ∈ [zH, zH], (Hdr.cs q).length = 68 := by intro q hq; simp at hq; subst hq; rfl
 have w' : ∀ q ∈ [x, zH], (Hdr.cs q).length = 68 := by intro q hq; simp at hq; rcases hq with rfl | rfl; exact lx; rfl
 have e1 := wrA_flat (f := Hdr.cs) w (n := 0) (x := zH) (y := x) rfl (k := 0) (c := x.cs) (by omega) (wrA_all (by rw [lx]; rfl))
 have e2 := wrA_flat (f := Hdr.cs) w' (n := 1) (x := zH) (y := y) rfl (k := 0) (c := y.cs) (by omega) (wrA_all (by rw [ly]; rfl))
 rw [e, show (0 : Nat) = 0 * 68 + 0 from rfl, e1]
 show wrA ([x, zH].flatMap Hdr.cs) (1 * 68 + 0) y.cs = _
 rw [e2]
 simp
theorem vs56 : (∀ V s a b c d e f l o, (FT V s ++ a :: b :: c :: d :: e :: f :: l).set (V.length + 5) o = FT V s ++ a :: b :: c :: d :: e :: o :: l) /\ (∀ V s a b c d e f g l o, (FT V s ++ a :: b :: c :: d :: e :: f :: g :: l).set (V.length + 6) o = FT V s ++ a :: b :: c :: d :: e :: f :: o :: l) := by
 have hs : ∀ (V : Tbl) s (l : Tbl) k o, (FT V s ++ l).set (V.length + k) o = FT V s ++ l.set k o := fun V s l k o => by rw [List.set_append_right _ _ (by rw [FT_len]; omega), FT_len, Nat.add_sub_cancel_left]
 exact ⟨fun V s a b c d e f l o => hs V s _ 5 o, fun V s a b c d e f g l o => hs V s _ 6 o⟩
theorem FE_moved (n b i : Nat) : moved (FE n b) i = (i == b) := by
 show ((true && decide (i = b)) || moved (EF n) i) = _
 rw [EF_moved, Bool.or_false, Bool.true_and]
 by_cases h : i = b <;> simp [h]
theorem FE_slots (n b : Nat) : (∀ l, slots (FE n b) l = l.map (AV.wo (· == b))) /\ (∀ l, slotsT (FE n b) l = l.map fun p => (p.1, p.2.wo (· == b))) := by
 have h : moved (FE n b) = (· == b) := funext fun i => FE_moved n b i
 have h2 : still (FE n b) = false := rfl
 exact ⟨fun l => by unfold slots; rw [h2, h], fun l => by unfold slotsT; rw [h2, h]⟩
theorem FW.fr {V : Tbl} {s : Fst} (h : FW V s) {k : Nat} (hk : V.length <= k) : s.Fr k := by
 have h1 := h.i.f
 have h2 := h.i.m
 have h3 := h.i.b
 refine ⟨by omega, by omega, by omega, ?_⟩
 cases hx : s.nd k with
 | none => rfl
 | some x => have := h.i.nn k x hx; omega
structure WS (B : Tbl) (D : Nat -> Prop) (s0 : Fst) (V : Tbl) (s : Fst) : Prop where
 w : FW V s
 g : s.G
 b : s.b = s0.b
 f : s.f = s0.f
 x : ∃ X, V = B ++ X
 fr : ∀ k, D k -> s.Fr k
 d : ∀ k, D k -> k < V.length
section
variable {B : Tbl} {D : Nat -> Prop} {s0 : Fst} {V : Tbl} {s : Fst}
theorem WS.add (h : WS B D s0 V s) {s' : Fst} {hd : Hdr} {ht : Nat} {gs : List (List UInt8)} {e : Int} {l : Tbl} (ha : AddR V.length s hd s' ht gs e) (hg : s'.G) (hw : FW (V ++ l) s') (hb : s'.b = s.b) (hf : s'.f = s.f) : WS B D s0 (V ++ l) s' := by
 obtain ⟨X, hX⟩ := h.x
 exact ⟨hw, hg, hb.trans h.b, hf.trans h.f, ⟨X ++ l, by rw [hX, List.append_assoc]⟩, fun k hk => (h.fr k hk).add (h.d k hk) ha, fun k hk => by have := h.d k hk; rw [List.length_append]; omega⟩
theorem WS.tail (h : WS B D s0 V s) {l : Tbl} (hl : Tl V.length s.b l) : WS B D s0 (V ++ l) s := by
 obtain ⟨X, hX⟩ := h.x
 exact ⟨h.w.app hl, h.g, h.b, h.f, ⟨X ++ l, by rw [hX, List.append_assoc]⟩, h.fr, fun k hk => by have := h.d k hk; rw [List.length_append]; omega⟩
theorem WS.box (h : WS B D s0 V s) {l : Tbl} (hl : Tl V.length s.b l) : WS (V ++ l) (fun k => D k ∨ (V.length <= k /\ k < V.length + l.length)) s0 (V ++ l) s :=
 ⟨h.w.app hl, h.g, h.b, h.f, ⟨[], by simp⟩, fun k hk => hk.elim (h.fr k) fun hk => h.w.fr hk.1, fun k hk => by rw [List.length_append]; rcases hk with hk | hk; have := h.d k hk; omega; omega⟩
theorem WS.at (h : WS B D s0 V s) {k : Nat} {o : AObj} (hk : D k) (hB : B[k]? = some o) : (FT V s)[k]? = some o /\ ∀ l, (FT V s ++ l)[k]? = some o := by
 obtain ⟨X, hX⟩ := h.x
 have hl := (List.getElem?_eq_some_iff.1 hB).1
 have e : V[k]? = some o := by rw [hX, List.getElem?_append_left hl]; exact hB
 exact ⟨by rw [FT_fr (h.fr k hk)]; exact e, fun l => by rw [FT_app (h.d k hk), FT_fr (h.fr k hk)]; exact e⟩
end
theorem qe_rec {n m b : Nat} {E : Eff} (hb : n <= b) (h : ∀ e ∈ E, e ∈ EF n) : ∀ e ∈ recE n (FE m b) E, e ∈ EF n := by
 intro e he
 obtain ⟨i, t⟩ := e
 rcases recE_mem.1 he with ⟨h1, h2⟩ | h1
 . rcases FE_mem.1 h1 with ⟨rfl, _⟩ | ⟨_, h3⟩
   . exact absurd h2 (by show ¬ i < n; omega)
   . exact EF_mem.2 ⟨h2, h3⟩
 . exact h _ h1
theorem qe_rec1 {n i : Nat} {E : Eff} (h : ∀ e ∈ E, e ∈ EF n) : ∀ e ∈ rec1 n i false E, e ∈ EF n := by
 intro e he
 unfold rec1 at he
 split at he
 . rcases List.mem_cons.1 he with rfl | he
   . exact EF_mem.2 ⟨by assumption, rfl⟩
   . exact h e he
 . exact h e he
theorem mem2 {x y z : Hdr} (ox : x.Ok) (oy : y.Ok) (h : z ∈ [x, y]) : z.Ok := by
 simp only [List.mem_cons, List.not_mem_nil, or_false] at h
 rcases h with rfl | rfl
 . exact ox
 . exact oy
theorem works_ok {T : Tbl} : CallA prog G 18 [] T fun v T' es => v = .p (.bool true) /\ T' = T /\ es = EF T.length := by
 refine CallA.wfs fun wf => ?_
 have wt := wf.t
 have hr := Par.rules tP_ok
 refine CallA.eV 29 func18 ntmps18 results18 ?_
 refine sqax ?_
 refine (easy13_ok (i := 10) (s := 10) (by omega)).det' ?_
 have hpw := vz72.2 _ tP_ok
 have g0 := fun l => gn0 T (.cells 30 tP.cs) l
 refine tqaz (cj5 @hr @ez72 @hpw @vz72 @g0) ?_
 have hnew := fun U : Tbl => (fnew_ok (T := U) (p := tP) tP_ok (a := .p (.slice none 0 0)) (by rw [tP_put]; exact tP_ok) rfl rfl (fun _ => clone_nil) (room := 1)).mono (K' := fun v T' es => v = .tu [.ptr (U.length + 4) 0, .p (.int .i64 0)] /\ T' = FT (U ++ List.replicate 5 .gone) (Fst.mk0 tP U.length 1) /\ es = []) fun v T' es h => by rw [if_pos ⟨tP_may, by omega, by omega⟩] at h; exact h
 obtain ⟨T1, hT1⟩ : ∃ T1, T1 = T ++ [.cells 30 tP.cs] := ⟨_, rfl⟩
 rw [<- hT1]
 refine (hnew T1).det' ?_
 have hl1 : T1.length = T.length + 1 := by rw [hT1]; simp
 have wf1 : ∀ q : Nat -> Bool, (∀ i, i < T1.length -> q i = false) -> T1.map (AObj.wo q) = T1 := fun q hq => by
  rw [hT1, List.map_append, (wf.wf q fun i hi => hq i (by omega)).1]
  simp only [List.map_cons, List.map_nil, AObj.wo, hr]
 obtain ⟨V0, hV0⟩ : ∃ V0, V0 = T1 ++ List.replicate 5 AObj.gone := ⟨_, rfl⟩
 obtain ⟨s0, hs0⟩ : ∃ s0, s0 = Fst.mk0 tP T1.length 1 := ⟨_, rfl⟩
 have W0 : FW V0 s0 := by rw [hV0, hs0]; exact mk0_W wf1 tP_ok 1
 have G0 : s0.G := by rw [hs0]; exact mk0_G _ _ _
 have F0 : ∀ k, k <= T.length -> s0.Fr k := fun k hk => by rw [hs0]; exact mk0_Fr (.inl (by omega))
 have F0' : ∀ k, V0.length <= k -> s0.Fr k := fun k hk => by rw [hs0]; exact mk0_Fr (.inr (by rw [hV0] at hk; simpa using hk))
 have l0 : T.length < V0.length := by rw [hV0, List.length_append, hl1]; omega
 have P0 : V0[T.length]? = some (.cells 30 tP.cs) := by rw [hV0, hT1, List.append_assoc]; exact gn0 T _ _
 have gP : ∀ l, (FT V0 s0 ++ l)[T.length]? = some (.cells 30 tP.cs) := fun l => by rw [FT_app l0, FT_fr (F0 _ (Nat.le_refl _)), P0]
 have gP' : (FT V0 s0)[T.length]? = some (.cells 30 tP.cs) := by rw [FT_fr (F0 _ (Nat.le_refl _)), P0]
 have hf0 : T1.length + 4 = s0.f := by rw [hs0]; rfl
 rw [<- hV0, <- hs0, hf0]
 have wt0 := W0.r.t' W0.i W0.v
 have oF : tP.first.Ok := tP_ok.f
 have oA : hA.Ok := ⟨rfl, rfl⟩
 have oB : hB.Ok := ⟨rfl, rfl⟩
 have oC : hC.Ok := ⟨rfl, rfl⟩
 have oD : hD.Ok := ⟨rfl, rfl⟩
 have rF := Hdr.rules oF
 have hvF := vz68.2 _ oF
 have hvA := vz68.2 _ oA
 have hvB := vz68.2 _ oB
 have hvC := vz68.2 _ oC
 have hvD := vz68.2 _ oD
 have e1 : z32.set 0 (.p (.int .u8 1)) = (tR 1).map by8 := rfl
 have e2 : z32.set 0 (.p (.int .u8 2)) = (tR 2).map by8 := rfl
 have e3 : z32.set 0 (.p (.int .u8 3)) = (tR 3).map by8 := rfl
 have e4 : z32.set 0 (.p (.int .u8 4)) = (tR 4).map by8 := rfl
 have rA := Hdr.rules oA
 have rB := Hdr.rules oB
 refine tqaz (cj12 @vft @hr @gP @gP' @wt0 @kallT @rF @ez32 @ez68 @rep1 @hvF @e1) ?_
 have m1 := fun U l (R : List UInt8) (hR : R.length = 32) => mine13_ok (T := FT V0 s0 ++ .buf 28 68 tP.first.cs :: l) tP_ok (a := .sl V0.length 0 1) (hs := [tP.first]) (Es.obj (xs := [tP.first]) (vft.2.1 _ _ _ _) (by simp [AObj.cs]) fun x hx => Hdr.cs_len (by rw [List.mem_singleton.1 hx]; exact oF)) (fun x hx => by rw [List.mem_singleton.1 hx]; exact oF) (by decide) (time := U) (tries := 200) (root := R) hR
 refine (m1 2000 _ (tR 1) rfl).det' ?_
 rw [mine_A]
 refine tqaz (cj13 @vft @hr @gP @gP' @wt0 @kallT @rF @rA @ez32 @ez68 @vz68 @hvA @e2) ?_
 refine (m1 2000 _ (tR 2) rfl).det' ?_
 rw [mine_B]
 simp -dsimp +decide (disch := omega) only [v5q, ↓reduceIte, Nat.reduceSub, Nat.reduceAdd, Nat.reduceMul, Nat.reduceLT, Int.reduceAdd, Int.reduceSub, Int.reduceToNat, v2q, vft, hr, gP, gP', wt0, kallT, rF, rA, rB, ez32, ez68, vz68, hvB, e3, ez136, vz136 oF oB]
 refine (mine13_ok tP_ok (hs := [tP.first, hB]) (Es.obj (i := V0.length + 3) (xs := [tP.first, hB]) (vft.2.2.2.2.1 _ _ _ _ _ _ _) (by simp [AObj.cs]) fun x hx => Hdr.cs_len (mem2 oF oB hx)) (fun x hx => mem2 oF oB hx) (by decide) (time := 2010) (tries := 200) (root := tR 3) rfl).det' ?_
 have rC := Hdr.rules oC
 rw [mine_C]
 simp -dsimp +decide (disch := omega) only [v5q, ↓reduceIte, Nat.reduceSub, Nat.reduceAdd, Nat.reduceMul, Nat.reduceLT, Int.reduceAdd, Int.reduceSub, Int.reduceToNat, v2q, vft, vs56, hr, gP, gP', wt0, kallT, rF, rA, rB, rC, ez32, ez68, vz68, hvC, e4, ez136, vz136 oF oA]
 refine (mine13_ok tP_ok (hs := [tP.first, hA]) (Es.obj (i := V0.length + 5) (xs := [tP.first, hA]) (vft.2.2.2.2.2.2.1 _ _ _ _ _ _ _ _ _) (by simp [AObj.cs]) fun x hx => Hdr.cs_len (mem2 oF oA hx)) (fun x hx => mem2 oF oA hx) (by decide) (time := 2010) (tries := 200) (root := tR 4) rfl).det' ?_
 have rD := Hdr.rules oD
 rw [mine_D]
 refine tqaz (cj16 @vft @vs56 @hr @gP @gP' @wt0 @kallT @rF @rA @rB @rC @rD @ez32 @ez68 @vz68 @hvD) ?_
 obtain ⟨L, hL⟩ : ∃ L : Tbl, L = [AObj.buf 28 68 tP.first.cs, AObj.cells 28 hA.cs, AObj.cells 28 hB.cs, AObj.buf 28 68 (tP.first.cs ++ hB.cs), AObj.cells 28 hC.cs, AObj.buf 28 68 (tP.first.cs ++ hA.cs), AObj.cells 28 hD.cs] := ⟨_, rfl⟩
 have tl : Tl V0.length s0.b L := by
  rw [hL]
  refine ⟨fun q _ => ?_, ?_⟩
  . simp only [List.map_cons, List.map_nil, AObj.wo, List.map_append, rF, rA, rB, rC, rD]
  . simp only [List.map_cons, List.map_nil, AObj.wo, List.map_append, rF, rA, rB, rC, rD]
 have Z0 : WS V0 (fun k => k <= T.length) s0 V0 s0 := ⟨W0, G0, rfl, rfl, ⟨[], by simp⟩, F0, fun k hk => by omega⟩
 have Z1 := Z0.box tl
 rw [<- hL, FT_tail W0.i]
 obtain ⟨V1, hV1⟩ : ∃ V1, V1 = V0 ++ L := ⟨_, rfl⟩
 rw [<- hV1] at Z1 ⊢
 have hLl : L.length = 7 := by rw [hL]; rfl
 rw [hLl] at Z1
 have hbx : ∀ j, V1[V0.length + j]? = L[j]? := fun j => by rw [hV1, List.getElem?_append_right (by omega), Nat.add_sub_cancel_left]
 have l1 : V1.length = V0.length + 7 := by rw [hV1, List.length_append, hLl]
 have xB := hbx 2
 have xC := hbx 4
 have xD := hbx 6
 have xA := hbx 1
 rw [hL] at xA xB xC xD
 have r0 : s0.room = 1 := by rw [hs0]; rfl
 have bc0 : s0.bc.length = 1 := by rw [hs0]; rfl
 have b0 : s0.b = T.length + 4 := by rw [hs0]; show T1.length + 3 = _; omega
 have f0 : s0.f = T.length + 5 := by rw [<- hf0]; omega
 have v0 : V0.length = T.length + 6 := by rw [hV0, List.length_append, hl1]; rfl
 have bq : (∀ k, (V0.length + k == s0.b) = false) /\ (V0.length == s0.b) = false /\ (s0.f == s0.b) = false /\ (T.length == s0.b) = false := ⟨fun k => by simp; omega, by simp; omega, by simp; omega, by simp; omega⟩
 refine CallA.mono (K := AddK V1 s0 hA) (fadd_ok Z1.w Z1.g oA (by omega) (by omega)) fun v T' es h => ?_
 obtain ⟨s1, t1, gs1, e1', x1, a1, R1, G1, I1, W1, -, hb1, hf1, rfl, rfl, rfl⟩ := h
 have Z2 := Z1.add R1 G1 W1 hb1 hf1
 have y1 := I1.wo
 obtain ⟨V2, hV2⟩ : ∃ V2, V2 = V1 ++ x1 := ⟨_, rfl⟩
 rw [<- hV2] at Z2 ⊢
 have gB := Z2.at (.inr ⟨by omega, by omega⟩) xB
 have q1 : s1.room = 1 := R1.dom.2.2.2.1.trans r0
 have n1 := R1.len
 simp -dsimp +decide (disch := omega) only [v5q, ↓reduceIte, Nat.reduceSub, Nat.reduceAdd, Nat.reduceMul, Nat.reduceLT, Int.reduceAdd, Int.reduceSub, Int.reduceToNat, v2q, vft, hr, FE_slots, bq, AV.wo, y1, gB, kallT, rB, List.map_cons, List.map_nil]
 have ha2 := fadd_ok Z2.w Z2.g oB (by omega) (by omega)
 rw [Z2.f] at ha2
 refine CallA.mono ha2 fun v T' es h => ?_
 obtain ⟨s2, t2, gs2, e2', x2, a2, R2, G2, I2, W2, -, hb2, hf2, rfl, rfl, rfl⟩ := h
 have Z3 := Z2.add R2 G2 W2 hb2 hf2
 have y2 := I2.wo
 have z2b := Z2.b
 obtain ⟨V3, hV3⟩ : ∃ V3, V3 = V2 ++ x2 := ⟨_, rfl⟩
 rw [<- hV3] at Z3 ⊢
 have q2 : s2.room = 1 := R2.dom.2.2.2.1.trans q1
 have n2 := R2.len
 simp -dsimp +decide (disch := omega) only [v5q, ↓reduceIte, Nat.reduceSub, Nat.reduceAdd, Nat.reduceMul, Nat.reduceLT, Int.reduceAdd, Int.reduceSub, Int.reduceToNat, v2q, vft, hr, FE_slots, bq, AV.wo, y1, y2, z2b, kallT, List.map_cons, List.map_nil]
 obtain ⟨w2, hw2⟩ := Z3.g.x _ Z3.g.t
 have hbe := best_ok Z3.w hw2
 rw [Z3.f] at hbe
 refine hbe.det' ?_
 have i2 := w2.h.id_len
 have wt3 := Z3.w.r.t' Z3.w.i Z3.w.v
 have gC := Z3.at (.inr ⟨by omega, by omega⟩) xC
 have v3 : V1.length <= V3.length := by rw [hV3, hV2, List.length_append, List.length_append]; omega
 refine tqaz (cj10 @vft @hr @vh @i2 @ez32 @bq @kallT @wt3 @gC @rC) ?_
 have tl2 : Tl V3.length s2.b [.cells 26 (w2.h.id.map by8)] := ⟨fun q _ => by simp only [List.map_cons, List.map_nil, AObj.wo, wb8], by simp only [List.map_cons, List.map_nil, AObj.wo, wb8]⟩
 have Z4 := Z3.tail tl2
 have Y4 := Z3.box tl2
 rw [FT_tail Z3.w.i]
 have xO : (V3 ++ [AObj.cells 26 (w2.h.id.map by8)])[V3.length]? = some (.cells 26 (w2.h.id.map by8)) := gn0 V3 _ _
 obtain ⟨V4, hV4⟩ : ∃ V4, V4 = V3 ++ [AObj.cells 26 (w2.h.id.map by8)] := ⟨_, rfl⟩
 have l4 : V4.length = V3.length + 1 := by rw [hV4]; simp
 rw [<- hV4] at Z4 Y4 xO ⊢
 have ha3 := fadd_ok Z4.w Z4.g oC (by omega) (by omega)
 rw [Z4.f] at ha3
 refine CallA.mono ha3 fun v T' es h => ?_
 obtain ⟨s3, t3, gs3, e3', x3, a3, R3, G3, I3, W3, -, hb3, hf3, rfl, rfl, rfl⟩ := h
 have Z5 := Z4.add R3 G3 W3 hb3 hf3
 have Y5 := Y4.add R3 G3 W3 hb3 hf3
 have y3 := I3.wo
 have z3b := Z3.b
 obtain ⟨V5, hV5⟩ : ∃ V5, V5 = V4 ++ x3 := ⟨_, rfl⟩
 rw [<- hV5] at Z5 Y5 ⊢
 have l5 : V4.length <= V5.length := by rw [hV5, List.length_append]; omega
 have q3 : s3.room = 1 := R3.dom.2.2.2.1.trans q2
 have n3 := R3.len
 have bq3 : (V3.length == s0.b) = false := by simp; omega
 simp -dsimp +decide (disch := omega) only [v5q, ↓reduceIte, Nat.reduceSub, Nat.reduceAdd, Nat.reduceMul, Nat.reduceLT, Int.reduceAdd, Int.reduceSub, Int.reduceToNat, v2q, vft, hr, FE_slots, bq, bq3, AV.wo, y1, y2, y3, z2b, z3b, kallT, List.map_cons, List.map_nil]
 obtain ⟨w3, hw3⟩ := Z5.g.x _ Z5.g.t
 have hbe3 := best_ok Z5.w hw3
 rw [Z5.f] at hbe3
 refine hbe3.det' ?_
 have i3 := w3.h.id_len
 have wt5 := Z5.w.r.t' Z5.w.i Z5.w.v
 have gD := Z5.at (.inr ⟨by omega, by omega⟩) xD
 refine tqaz (cj10 @vft @hr @vh @i3 @ez32 @bq @kallT @wt5 @gD @rD) ?_
 have tl3 : Tl V5.length s3.b [.cells 26 (w3.h.id.map by8)] := ⟨fun q _ => by simp only [List.map_cons, List.map_nil, AObj.wo, wb8], by simp only [List.map_cons, List.map_nil, AObj.wo, wb8]⟩
 have Z6 := Z5.tail tl3
 have Y6 := Y5.tail tl3
 have X6 := Z5.box tl3
 rw [FT_tail Z5.w.i]
 have xT : (V5 ++ [AObj.cells 26 (w3.h.id.map by8)])[V5.length]? = some (.cells 26 (w3.h.id.map by8)) := gn0 V5 _ _
 obtain ⟨V6, hV6⟩ : ∃ V6, V6 = V5 ++ [AObj.cells 26 (w3.h.id.map by8)] := ⟨_, rfl⟩
 have l6 : V6.length = V5.length + 1 := by rw [hV6]; simp
 rw [<- hV6] at Z6 Y6 X6 xT ⊢
 have ha4 := fadd_ok Z6.w Z6.g oD (by omega) (by omega)
 rw [Z6.f] at ha4
 refine CallA.mono ha4 fun v T' es h => ?_
 obtain ⟨s4, t4, gs4, e4', x4, a4, R4, G4, I4, W4, -, hb4, hf4, rfl, rfl, rfl⟩ := h
 have Z7 := Z6.add R4 G4 W4 hb4 hf4
 have Y7 := Y6.add R4 G4 W4 hb4 hf4
 have X7 := X6.add R4 G4 W4 hb4 hf4
 have y4 := I4.wo
 have z5b := Z5.b
 obtain ⟨V7, hV7⟩ : ∃ V7, V7 = V6 ++ x4 := ⟨_, rfl⟩
 rw [<- hV7] at Z7 Y7 X7 ⊢
 have bq5 : (V5.length == s0.b) = false := by simp; omega
 rw [hs0] at R1
 obtain ⟨⟨rfl, rfl, rfl, rfl, rfl, rfl⟩, -, ⟨w2', h21, h22, h23⟩, ⟨w3', h31, h32, h33⟩⟩ := tP_run R1 R2 R3 R4
 rw [hw2] at h21; cases h21
 rw [hw3] at h31; cases h31
 have hsg := Sl.rules (I4.es (FT V7 s4)).sl (by decide)
 have hld := (I4.es (FT V7 s4)).ld (P := prog) (t := 26) (by (simp -dsimp +decide only [v5q, ↓reduceIte, Nat.reduceSub, Nat.reduceAdd, Nat.reduceMul, Nat.reduceLT, Int.reduceAdd, Int.reduceSub, Int.reduceToNat, ci])) (by (simp -dsimp +decide only [v5q, ↓reduceIte, Nat.reduceSub, Nat.reduceAdd, Nat.reduceMul, Nat.reduceLT, Int.reduceAdd, Int.reduceSub, Int.reduceToNat, ci])) (by decide)
 simp -dsimp +decide (disch := omega) only [v5q, ↓reduceIte, Nat.reduceSub, Nat.reduceAdd, Nat.reduceMul, Nat.reduceLT, Int.reduceAdd, Int.reduceSub, Int.reduceToNat, v2q, vft, hr, FE_slots, bq, bq3, bq5, AV.wo, y1, y2, y3, y4, z2b, z3b, z5b, kallT, List.map_cons, List.map_nil]
 refine SemA.draw (fun i => true) [(0, true), (1, true), (2, true), (3, true), (4, true), (5, true), (6, true), (7, true), (8, true), (9, true), (10, true), (11, true), (12, true), (13, true), (14, true), (15, true), (16, true), (17, true), (18, true), (19, true), (20, true), (21, true), (22, true), (23, true), (24, false), (25, true), (26, true)] mixed (by kernel_rfl) ?_
 have gD7 := Z7.at (.inr ⟨by omega, by omega⟩) xD
 have hld0 : ∀ K : AV -> Prop, loadA prog 26 (a4.pl 0) (FT V7 s4) K = K (.ag (hD.id.map by8)) := fun K => (hld.2 0 K (by decide)).trans rfl
 have hl1 : [hD.id].length = 1 := rfl
 refine tqaz (cj8 @vft @hr @kallT @hsg @hld0 @gD7 @rD @hl1) ?_
 refine (rid_ok oD).det' ?_
 have nD := neh hD.id_len hD.id_len
 have dd : (!decide (hD.id = hD.id)) = false := by simp
 refine tqaz (cj6 @vft @hr @kallT @nD @dd @bb2) ?_
 refine SemA.draw (fun i => true) [(0, true), (1, true), (2, false), (3, true), (4, true), (5, true), (6, true), (7, true), (8, true), (9, true), (10, true), (11, false), (12, true), (13, true), (14, true), (15, true), (16, true), (17, true), (18, true)] mixed (by kernel_rfl) ?_
 have gO := Y7.at (.inr ⟨Nat.le_refl _, by simp⟩) xO
 have gT := X7.at (.inr ⟨Nat.le_refl _, by simp⟩) xT
 have gA7 := Z7.at (.inr ⟨by omega, by omega⟩) xA
 have gC7 := Z7.at (.inr ⟨by omega, by omega⟩) xC
 rw [h22] at gO
 rw [h32] at gT
 simp -dsimp +decide (disch := omega) only [v5q, ↓reduceIte, Nat.reduceSub, Nat.reduceAdd, Nat.reduceMul, Nat.reduceLT, Int.reduceAdd, Int.reduceSub, Int.reduceToNat, v2q, vft, hr, kallT, vh, hA.id_len, gO, gA7, rA, bb2]
 refine (rid_ok oA).det' ?_
 have tA : List.take 32 (List.drop 0 hA.id) = hA.id := by rw [List.drop_zero, List.take_of_length_le (by rw [hA.id_len]; omega)]
 have tC : List.take 32 (List.drop 0 hC.id) = hC.id := by rw [List.drop_zero, List.take_of_length_le (by rw [hC.id_len]; omega)]
 have nA := eqh hA.id_len hA.id_len
 have nC := eqh hC.id_len hC.id_len
 have dA : decide (hA.id = hA.id) = true := by simp
 have dC : decide (hC.id = hC.id) = true := by simp
 simp -dsimp +decide (disch := omega) only [v5q, ↓reduceIte, Nat.reduceSub, Nat.reduceAdd, Nat.reduceMul, Nat.reduceLT, Int.reduceAdd, Int.reduceSub, Int.reduceToNat, v2q, vft, hr, kallT, vh, hA.id_len, hC.id_len, gO, gT, gC7, rC, tA, nA, dA, bb2]
 refine (rid_ok oC).det' ?_
 have h33' : ((w3.ht : Int)) = 2 := by rw [h33]; rfl
 refine tqaz (cj9 @vft @hr @kallT @vh @tC @nC @dC @h33' @bb2) ?_
 obtain ⟨X, hX⟩ := Z7.x
 obtain ⟨Q, hQ⟩ := FT_pre (T := T) (X := [AObj.cells 30 tP.cs] ++ (List.replicate 5 AObj.gone ++ (L ++ X))) (s := s4) fun k hk => Z7.fr k (.inl (by show k <= T.length; omega))
 have hV7e : V7 = T ++ ([AObj.cells 30 tP.cs] ++ (List.replicate 5 AObj.gone ++ (L ++ X))) := by rw [hX, hV1, hV0, hT1]; simp only [List.append_assoc]
 rw [hV7e, hQ]
 have hb4 : T.length <= s0.b := by omega
 exact Vw.eff (E' := EF T.length) (qe_rec hb4 (qe_rec1 (qe_rec hb4 (qe_rec1 (qe_rec hb4 (qe_rec hb4 (qe_rec1 (qe_rec1 (qe_rec1 (qe_rec1 (by simp))))))))))) (Vw.cut ⟨rfl, rfl, rfl⟩)
end Go.Proofs.YtfpjalgfnjjcmaaGreatDoor
namespace Go.Proofs.YtfpjalgfnjjcmaaGreatDoor
open Go.E Go.Proofs.YtfpjalgfnjjcmaaGreatDoor.Tryz Go.Proofs.Tryz
set_option maxRecDepth 8000
theorem fr_none {p : Par} {hs : List Hdr} {h : Hdr} (c1 : mayB p = true) (c2 : prevB hs h = true) (c3 : h.bits = bitsB p hs) (c4 : workB h = true) (c5 : (medB hs).toNat < h.time.toNat) : rightE p hs h = if p.pts.any (ptB hs.length h.id) then 13 else 0 := by
 unfold rightE
 rw [c1, c2, decide_eq_true c3, c4, decide_eq_true c5]
 cases p.pts.any (ptB hs.length h.id) <;> rfl
theorem flat_sub {α : Type} {f : α -> List AV} {sz : Nat} {xs : List α} (h : ∀ x ∈ xs, (f x).length = sz) {i j m : Nat} {x : α} (hx : xs[i]? = some x) (hj : j + m = sz) : ((xs.flatMap f).drop (i * sz + j)).take m = (f x).drop j := by
 rw [<- List.drop_drop, show m = sz - j by omega, <- List.drop_take, flat_at h hx]
theorem right13_ok {T : Tbl} {p : Par} (okp : p.Ok) {a : AV} {hs : List Hdr} {h : Hdr} (hb : Es T 68 Hdr.cs a hs) (hok : ∀ x ∈ hs, x.Ok) (ok : h.Ok) (hl : hs.length <= 1000000) :
 CallA prog G 12 [.ag p.cs, a, .ag h.cs] T fun v T' es => v = .p (.int .i64 (rightE p hs h)) /\ T' = T /\ es = [] := by
 refine CallA.wfs fun wf => ?_
 have wt := wf.t
 have wa := wf.arg a (by simp)
 have hr := Hdr.rules ok
 have hr2 := Par.rules okp
 have ez : [oQ, oQ, oQ, oQ] = Bg 0 := rfl
 have hil := h.id_len
 have hsr := Sl.rules hb.sl (by decide)
 have hld := hb.ld (P := prog) (t := 28) (by (simp -dsimp +decide only [vt2, v1q, ↓reduceIte, Nat.reduceSub, Nat.reduceAdd, Nat.reduceMul, Nat.reduceLT, Int.reduceAdd, Int.reduceSub, Int.reduceToNat, ci])) (by (simp -dsimp +decide only [vt2, v1q, ↓reduceIte, Nat.reduceSub, Nat.reduceAdd, Nat.reduceMul, Nat.reduceLT, Int.reduceAdd, Int.reduceSub, Int.reduceToNat, ci])) (by decide)
 have g0 := fun l => gn0 T (.cells 30 p.cs) l
 have g1 := fun a l => gn1 T a (.cells 28 h.cs) l
 refine CallA.eV 14 func12 ntmps12 results12 ?_
 refine sqcx ?_
 refine tqcz (cj2 @hr @hr2) ?_
 refine (may13_ok okp).det' ?_
 cases c1 : mayB p with
 | false =>
   rw [show rightE p hs h = 1 by unfold rightE firstR; rw [c1]; rfl]
   refine tqcz @bb2 ?_
   exact Vw.cut ⟨rfl, rfl, rfl⟩
 | true =>
 refine tqcz (cj5 @hr @hr2 @g0 @g1 @bb2) ?_
 refine SemA.draw (fun i => true) [(0, true), (1, true), (2, true), (3, true), (4, true), (5, true), (6, true), (7, true), (8, true), (9, true), (10, true), (11, true), (12, false), (13, true), (14, true)] mixed (by kernel_rfl) ?_
 cases hn : hs.getLast? with
 | none =>
   rw [show rightE p hs h = 9 by unfold rightE firstR; rw [c1, show prevB hs h = false by rw [prevB, hn]]; rfl]
   rw [List.getLast?_eq_none_iff] at hn
   subst hn
   refine tqcz (cj8 @hr @hr2 @g0 @g1 @hsr @List.length_nil.{0} @kallT @bb2) ?_
   exact Vw.cut ⟨rfl, rfl, rfl⟩
 | some la =>
 have hlast : hs[hs.length - 1]? = some la := by rw [<- List.getLast?_eq_getElem?, hn]
 have hne : 0 < hs.length := by
  rcases hs with _ | ⟨x, l⟩
  . cases hn
  . exact Nat.succ_pos _
 have hla := hok la (List.mem_of_getElem? hlast)
 have hsub1 : (hs.length : Int) - 1 = ((hs.length - 1 : Nat) : Int) := by omega
 have h0 : ((hs.length : Int) = 0) = False := eq_false (by omega)
 refine tqcz (cj11 @hr @hr2 @g0 @g1 @hsr @h0 @hsub1 @hld @hlast @kallT @bb2) ?_
 refine ⟨⟨by omega, by omega⟩, (rid_ok hla).det' ?_⟩
 by_cases d2 : h.prev = la.id
 rotate_left
 . rw [show rightE p hs h = 9 by unfold rightE firstR; rw [c1, show prevB hs h = false by rw [prevB, hn]; exact decide_eq_false d2]; rfl]
   have i2 := eq_false d2
   simp -dsimp +decide (disch := omega) only [vt2, v1q, ↓reduceIte, Nat.reduceSub, Nat.reduceAdd, Nat.reduceMul, Nat.reduceLT, Int.reduceAdd, Int.reduceSub, Int.reduceToNat, v2q, hr, hr2, g0, g1, hsr, neh ok.p la.id_len, i2, kallT, bb2]
   exact Vw.cut ⟨rfl, rfl, rfl⟩
 have c2 : prevB hs h = true := by rw [prevB, hn]; exact decide_eq_true d2
 have i2 := eq_true d2
 simp -dsimp +decide (disch := omega) only [vt2, v1q, ↓reduceIte, Nat.reduceSub, Nat.reduceAdd, Nat.reduceMul, Nat.reduceLT, Int.reduceAdd, Int.reduceSub, Int.reduceToNat, v2q, hr, hr2, g0, g1, hsr, neh ok.p la.id_len, i2, kallT, bb2]
 refine SemA.draw (fun i => true) [(0, true), (1, true), (2, true), (3, true), (4, false), (5, true)] mixed (by kernel_rfl) ?_
 refine tqcz (cj5 @hr @hr2 @g0 @g1 @kallT) ?_
 refine (bits13_ok okp (hb.app _) hok hl).det' ?_
 by_cases c3 : h.bits = bitsB p hs
 rotate_left
 . rw [show rightE p hs h = 10 by unfold rightE firstR; rw [c1, c2, decide_eq_false c3]; rfl]
   have i3 : ((h.bits.toNat : Int) = ((bitsB p hs).toNat : Int)) = False := eq_false fun e => c3 (UInt32.toNat_inj.1 (by omega))
   refine tqcz (cj7 @hr @hr2 @g0 @g1 @kallT @bb2 @i3) ?_
   exact Vw.cut ⟨rfl, rfl, rfl⟩
 have i3 : ((h.bits.toNat : Int) = ((bitsB p hs).toNat : Int)) = True := eq_true (by rw [<- c3])
 refine tqcz (cj7 @hr @hr2 @g0 @g1 @kallT @bb2 @i3) ?_
 refine (rid_ok ok).det' ?_
 have g2 := fun a b l => gn2 T a b (.cells 26 (h.id.map by8)) l
 refine tqcz (cj10 @hr @hr2 @g0 @g1 @g2 @ez32 @vh @hil @ez @vbg) ?_
 refine of03_ok.det' ?_
 cases ho : ofT h.bits.toNat with
 | none =>
   rw [show rightE p hs h = 11 by unfold rightE firstR; rw [c1, c2, decide_eq_true c3, show workB h = false by rw [workB, ho]]; rfl]
   unfold ofV
   refine tqcz (cj11 @hr @hr2 @g0 @g1 @g2 @ez32 @vh @hil @ez @vbg @bb2) ?_
   exact Vw.cut ⟨rfl, rfl, rfl⟩
 | some t =>
 have hwk : workB h = meetsB h t := by rw [workB, ho]
 unfold ofV
 have g3 := fun a b c l => gn3 T a b c (.cells 47 (Bg t)) l
 have hid32 : List.take 32 h.id = h.id := List.take_of_length_le (Nat.le_of_eq hil)
 refine tqcz (cj14 @hr @hr2 @g0 @g1 @g2 @g3 @ez32 @vh @hil @hid32 @List.drop_zero.{0} @ez @vbg @bb2) ?_
 refine (meets03_ok h.id_len (ofT_lt ho).1).det' ?_
 rw [show decide (t ≠ 0 /\ hN h.id <= t) = meetsB h t from rfl]
 cases c4 : meetsB h t with
 | false =>
   rw [show rightE p hs h = 11 by unfold rightE firstR; rw [c1, c2, decide_eq_true c3, hwk, c4]; rfl]
   refine tqcz (cj12 @hr @hr2 @g0 @g1 @g2 @g3 @ez32 @vh @hil @ez @vbg @bb2) ?_
   exact Vw.cut ⟨rfl, rfl, rfl⟩
 | true =>
 rw [c4] at hwk
 refine tqcz (cj12 @hr @hr2 @g0 @g1 @g2 @g3 @ez32 @vh @hil @ez @vbg @bb2) ?_
 refine SemA.draw (fun i => true) [(0, true), (1, true), (2, true), (3, false), (4, true)] mixed (by kernel_rfl) ?_
 refine tqcz (cj7 @hr @hr2 @g0 @g1 @g2 @g3 @kallT) ?_
 refine (median13_ok (hb.app _) hok hl).det' ?_
 by_cases c5 : (medB hs).toNat < h.time.toNat
 rotate_left
 . rw [show rightE p hs h = 12 by unfold rightE firstR; rw [c1, c2, decide_eq_true c3, hwk, decide_eq_false c5]; rfl]
   have i5 : ((h.time.toNat : Int) <= ((medB hs).toNat : Int)) = True := eq_true (by omega)
   refine tqcz (cj7 @hr @hr2 @g0 @g1 @kallT @bb2 @i5) ?_
   exact Vw.cut ⟨rfl, rfl, rfl⟩
 have i5 : ((h.time.toNat : Int) <= ((medB hs).toNat : Int)) = False := eq_false (by omega)
 refine tqcz (cj7 @hr @hr2 @g0 @g1 @kallT @bb2 @i5) ?_
 rw [fr_none c1 c2 c3 hwk c5]
 have hpl := okp.l
 have hbp := okp.a T
 have hsp := Sl.rules hbp.sl (by decide)
 have hldp := hbp.ld (P := prog) (t := 71) (by (simp -dsimp +decide only [vt2, v1q, ↓reduceIte, Nat.reduceSub, Nat.reduceAdd, Nat.reduceMul, Nat.reduceLT, Int.reduceAdd, Int.reduceSub, Int.reduceToNat, ci])) (by (simp -dsimp +decide only [vt2, v1q, ↓reduceIte, Nat.reduceSub, Nat.reduceAdd, Nat.reduceMul, Nat.reduceLT, Int.reduceAdd, Int.reduceSub, Int.reduceToNat, ci])) (by decide)
 have hl1 := Sl.loads hbp.sl (P := prog) (t := 3) (by (simp -dsimp +decide only [vt2, v1q, ↓reduceIte, Nat.reduceSub, Nat.reduceAdd, Nat.reduceMul, Nat.reduceLT, Int.reduceAdd, Int.reduceSub, Int.reduceToNat, ci]))
 have hpw := okp.wo
 refine SemA.loopK (T.length + 4) (fun k : Nat => [(1, a), (3, .ptr T.length 0), (7, .ptr (T.length + 2) 0), (10, wint (k : Int))]) (fun _ => T ++ [.cells 30 p.cs, .cells 28 h.cs, .cells 26 (h.id.map by8), .cells 47 (Bg t)]) (fun k => k <= p.pts.length /\ ∀ j, j < k -> ∀ x, p.pts[j]? = some x -> ptB hs.length h.id x = false) (fun k => p.pts.length - k) 0 [] 0 (fun _ : Unit => []) (fun _ => T ++ [.cells 30 p.cs, .cells 28 h.cs, .cells 26 (h.id.map by8), .cells 47 (Bg t)]) (fun _ => p.pts.any (ptB hs.length h.id) = false) (by omega) ⟨by omega, fun j hj => by omega⟩ (by (simp -dsimp +decide (disch := omega) only [vt2, v1q, ↓reduceIte, Nat.reduceSub, Nat.reduceAdd, Nat.reduceMul, Nat.reduceLT, Int.reduceAdd, Int.reduceSub, Int.reduceToNat, v4q]); first | rfl | exact ⟨rfl, rfl, rfl⟩ | done) rfl (by simp) ?_ ?_
 . rintro k g ⟨hk, hq⟩
   refine SemA.o ?_
   refine tqcz (cj3 @hr2 @hsp @g0) ?_
   refine CondP.dec (fun hc => ?_) (fun hc => ?_)
   . obtain ⟨x, hx⟩ : ∃ x, p.pts[k]? = some x := ⟨p.pts[k]'(by omega), by simp⟩
     have hx32 := okp.id x (List.mem_of_getElem? hx)
     have hn : 0 < p.pts.length := by omega
     have hfd := fun j k (K : AV -> Prop) => Sl.fld (K := K) hbp.sl hn j k
     have hcell : (p.pts.flatMap Pt.cs)[k * 33]? = some (wint x.h) := by
      have := flat_cell (j := 0) hbp.wd hx (by omega)
      simpa using this
     have hlh : ∀ (l : Tbl) (K : AV -> Prop), loadA prog 26 (p.pa.pl (k * 33 + 1)) (T ++ l) K = K (.ag (x.id.map by8)) := fun l K => by
      have e1 : tsz prog 26 = 32 := by (simp -dsimp +decide only [vt2, v1q, ↓reduceIte, Nat.reduceSub, Nat.reduceAdd, Nat.reduceMul, Nat.reduceLT, Int.reduceAdd, Int.reduceSub, Int.reduceToNat, ci])
      rw [(Sl.loadss hbp.sl (P := prog) (t := 26) (by (simp -dsimp +decide only [vt2, v1q, ↓reduceIte, Nat.reduceSub, Nat.reduceAdd, Nat.reduceMul, Nat.reduceLT, Int.reduceAdd, Int.reduceSub, Int.reduceToNat, ci])) (by decide)).1 l (k * 33 + 1) K (by rw [e1]; have : (k + 1) * 33 <= p.pts.length * 33 := Nat.mul_le_mul_right _ (by omega); omega), e1, flat_sub hbp.wd hx (by decide)]
      rfl
     have yes : ptB hs.length h.id x = false -> ∀ j, j < k + 1 -> ∀ x, p.pts[j]? = some x -> ptB hs.length h.id x = false := fun hp j hj z hz => by
      rcases Nat.lt_or_eq_of_le (Nat.le_of_lt_succ hj) with h2 | rfl
      . exact hq j h2 z hz
      . rw [hx] at hz; cases hz; exact hp
     have no : ptB hs.length h.id x = true -> p.pts.any (ptB hs.length h.id) = true := fun hp => List.any_eq_true.2 ⟨x, List.mem_of_getElem? hx, hp⟩
     refine SemA.draw (fun i => true) [(0, true), (1, true), (2, true), (3, true), (4, true), (5, true), (6, true), (7, true), (8, true), (9, true), (10, true), (11, true), (12, true), (13, true), (14, true), (15, true), (16, true), (17, true), (18, true)] mixed (by kernel_rfl) ?_
     by_cases d1 : x.h = (hs.length : Int)
     . have j1 := eq_true d1
       simp -dsimp +decide (disch := omega) only [vt2, v1q, ↓reduceIte, Nat.reduceSub, Nat.reduceAdd, Nat.reduceMul, Nat.reduceLT, Int.reduceAdd, Int.reduceSub, Int.reduceToNat, v2q, hr2, hsr, hsp, hldp, hl1, hx, g0, g2, hfd, hcell, hlh, vh, hil, hid32, List.drop_zero, kallT, j1, bb2, neh hx32 hil]
       refine ⟨⟨by omega, by omega⟩, ⟨by omega, by omega⟩, ?_⟩
       by_cases d2 : x.id = h.id
       . have j2 := eq_true d2
         have hp : ptB hs.length h.id x = false := by unfold ptB; rw [decide_eq_true d2, Bool.not_true, Bool.and_false]
         refine tqcz (cj19 @wt @wa @hr @hr2 @hsr @hsp @hldp @hl1 @hx @g0 @g2 @hfd @hcell @kallT @j2 @bb2 @vbg @vh @Bg_wo) ?_
         exact ⟨k + 1, ⟨⟨by omega, yes hp⟩, by omega⟩, rfl⟩
       . have j2 := eq_false d2
         have hp : ptB hs.length h.id x = true := by unfold ptB; rw [decide_eq_true d1, decide_eq_false d2]; rfl
         rw [if_pos (no hp)]
         refine tqcz (cj13 @hr2 @hsr @hsp @hldp @hl1 @hx @g0 @g2 @hfd @hcell @kallT @j2 @bb2) ?_
         exact Vw.cut ⟨rfl, rfl, rfl⟩
     . have j1 := eq_false d1
       have hp : ptB hs.length h.id x = false := by unfold ptB; rw [decide_eq_false d1]; rfl
       refine tqcz (cj17 @hr2 @hsr @hsp @hldp @hl1 @hx @g0 @g2 @hfd @hcell @kallT @j1 @bb2 @wt @wa @hr @Bg_wo) ?_
       exact ⟨⟨by omega, by omega⟩, k + 1, ⟨⟨by omega, yes hp⟩, by omega⟩, rfl⟩
   . have e : k = p.pts.length := by omega
     subst e
     refine tqcz (cj6 @wt @wa @hr @hr2 @vbg @vh) ?_
     refine ⟨(), ?_⟩
     rw [List.any_eq_false]
     intro x hx
     obtain ⟨i, hi, rfl⟩ := List.mem_iff_getElem.1 hx
     rw [hq i hi _ (by simp [hi])]; exact Bool.false_ne_true
 . rintro _ g tmp hq
   rw [hq]
   refine sqcz ?_
   exact Vw.cut ⟨rfl, rfl, rfl⟩
theorem rputh_own {T : Tbl} {h : Hdr} (ok : h.Ok) : CallA prog G 32 [.ag h.cs] T fun v T' es => v = .sl (T.length + 1) 0 80 /\ T' = T ++ [.cells 28 h.cs, .buf 5 1 (h.bytes.map by8)] /\ es = [] := by
 refine CallA.wfs fun wf => ?_
 have wt := wf.t
 have wp := wf.p
 have hr := Hdr.rules ok
 have hp := ok.p
 have hrt := ok.r
 refine CallA.eV 4 func32 ntmps32 results32 ?_
 refine sqcx ?_
 refine tqcz @hr ?_
 refine low_ok.det' ?_
 have l4 : ∀ n, (lw4 n).length = 4 := fun _ => rfl
 have la : ∀ a b : List UInt8, (a ++ b).length = a.length + b.length := fun a b => List.length_append
 have t4 : ∀ n, List.take 4 (List.map by8 (lw4 n)) = List.map by8 (lw4 n) := fun _ => rfl
 have t4' : ∀ n, List.take 4 (lw4 n) = lw4 n := fun _ => rfl
 refine tqcz (cj10 @wt @hr @vh @hp @hrt @l4 @la @t4 @t4' @List.drop_zero.{0}) ?_
 refine low_ok.det' ?_
 refine tqcz (cj10 @wt @hr @vh @hp @hrt @l4 @la @t4 @t4' @List.drop_zero.{0}) ?_
 refine low_ok.det' ?_
 refine tqcz (cj10 @wt @hr @vh @hp @hrt @l4 @la @t4 @t4' @List.drop_zero.{0}) ?_
 refine low_ok.det' ?_
 refine tqcz (cj10 @wt @hr @vh @hp @hrt @l4 @la @t4 @t4' @List.drop_zero.{0}) ?_
 rw [show lw4 h.v ++ h.prev ++ h.root ++ lw4 h.time ++ lw4 h.bits ++ lw4 h.nonce = h.bytes from rfl]
 refine Vw.cutN (T.length + 2) (by omega) ?_
 refine tqcz (cj3 @wt @hr @wb8) ?_
 exact Vw.done ⟨rfl, rfl, rfl⟩
def numF (bs : List UInt8) (at' : Nat) : UInt32 := ((bs.getD at' 0).toUInt32 ||| u32_shl (bs.getD (at' + 1) 0).toUInt32 8 ||| u32_shl (bs.getD (at' + 2) 0).toUInt32 16) ||| u32_shl (bs.getD (at' + 3) 0).toUInt32 24
theorem number08_ok {T : Tbl} {a : AV} {bs : List UInt8} {k : Nat} (hb : Bs T a bs) (hl : bs.length = 80) (hk : k <= 76) : CallA prog G 66 [a, wint (k : Int)] T fun v T' es => v = w32 (numF bs k) /\ T' = T /\ es = [] := by
 have hsr := Sl.rules hb (by decide)
 have hl1 := Sl.loads hb (P := prog) (t := 5) (by (simp -dsimp +decide only [vt2, v1q, ↓reduceIte, Nat.reduceSub, Nat.reduceAdd, Nat.reduceMul, Nat.reduceLT, Int.reduceAdd, Int.reduceSub, Int.reduceToNat, ci]))
 have hx : ∀ j, j < 80 -> bs[j]? = some (bs.getD j 0) := fun j hj => by rw [List.getD_eq_getElem?_getD]; simp [List.getElem?_eq_getElem (show j < bs.length by omega)]
 have h0 := hx k (by omega)
 have h1 := hx (k + 1) (by omega)
 have h2 := hx (k + 2) (by omega)
 have h3 := hx (k + 3) (by omega)
 have c1 : (k : Int) + 1 = ((k + 1 : Nat) : Int) := by omega
 have c2 : (k : Int) + 2 = ((k + 2 : Nat) : Int) := by omega
 have c3 : (k : Int) + 3 = ((k + 3 : Nat) : Int) := by omega
 refine CallA.eV 5 func66 ntmps66 results66 ?_
 refine sqcx ?_
 refine SemA.draw (fun i => true) [(0, true), (1, true), (2, true), (3, true), (4, true), (5, true), (6, true), (7, true), (8, true), (9, true), (10, true), (11, true), (12, true), (13, true), (14, true), (15, true), (16, true), (17, true), (18, true), (19, true), (20, true), (21, true), (22, true), (23, true), (24, true), (25, true), (26, true), (27, true), (28, true), (29, true)] mixed (by kernel_rfl) ?_
 refine tqcz (cj11 @hsr @hl1 @hl @c1 @c2 @c3 @h0 @h1 @h2 @h3 @kallT) ?_
 exact ⟨⟨by omega, by omega⟩, ⟨by omega, by omega⟩, ⟨by omega, by omega⟩, ⟨by omega, by omega⟩, Vw.done ⟨rfl, rfl, rfl⟩⟩
def hF (bs : List UInt8) (k i : Nat) : List UInt8 := (bs.drop k).take i ++ List.replicate (32 - i) 0
theorem hF_len {bs : List UInt8} {k i : Nat} (hl : bs.length = 80) (hk : k <= 48) (hi : i <= 32) : (hF bs k i).length = 32 := by
 rw [hF, List.length_append, List.length_take, List.length_drop, List.length_replicate]; omega
theorem hF_next {bs : List UInt8} {k i : Nat} {x : UInt8} (hx : bs[k + i]? = some x) (hi : i < 32) (hl : bs.length = 80) (hk : k <= 48) : (hF bs k i).set i x = hF bs k (i + 1) := by
 have hlen : ((bs.drop k).take i).length = i := by rw [List.length_take, List.length_drop]; omega
 have h1 : List.replicate (32 - i) (0 : UInt8) = 0 :: List.replicate (32 - (i + 1)) 0 := by rw [show 32 - i = (32 - (i + 1)) + 1 by omega, List.replicate_succ]
 rw [hF, hF, List.set_append_right _ _ (by omega), hlen, Nat.sub_self, h1, List.set_cons_zero, List.take_add_one, List.getElem?_drop, hx]
 simp
theorem hash08_ok {T : Tbl} {a : AV} {bs : List UInt8} {k : Nat} (hb : Bs T a bs) (hl : bs.length = 80) (hk : k <= 48) : CallA prog G 67 [a, wint (k : Int)] T fun v T' es => v = .ag ((hF bs k 32).map by8) /\ T' = T /\ es = [] := by
 refine CallA.wfs fun wf => ?_
 have wt := wf.t
 have wa := wf.arg a (by simp)
 have wz : ∀ q : Nat -> Bool, z32.map (AV.wo q) = z32 := fun q => wb8 q _
 have hsr := Sl.rules hb (by decide)
 have hl1 := Sl.loads hb (P := prog) (t := 5) (by (simp -dsimp +decide only [vt2, v1q, ↓reduceIte, Nat.reduceSub, Nat.reduceAdd, Nat.reduceMul, Nat.reduceLT, Int.reduceAdd, Int.reduceSub, Int.reduceToNat, ci]))
 refine CallA.eV 7 func67 ntmps67 results67 ?_
 refine sqcx ?_
 refine tqcz @ez32 ?_
 refine SemA.loopK (T.length + 2) (fun i : Nat => [(0, a), (1, wint (k : Int)), (4, .ptr T.length 0), (5, .ptr (T.length + 1) 0), (6, wint (i : Int))]) (fun i => T ++ [.cells 26 z32, .cells 26 ((hF bs k i).map by8)]) (fun i => i <= 32) (fun i => 32 - i) 0 [] 0 (fun _ : Unit => [(4, .ptr T.length 0), (5, .ptr (T.length + 1) 0)]) (fun _ => T ++ [.cells 26 z32, .cells 26 ((hF bs k 32).map by8)]) (fun _ => True) (by omega) (by omega) (by (simp -dsimp +decide (disch := omega) only [vt2, v1q, ↓reduceIte, Nat.reduceSub, Nat.reduceAdd, Nat.reduceMul, Nat.reduceLT, Int.reduceAdd, Int.reduceSub, Int.reduceToNat, v4q]); first | rfl | exact ⟨rfl, rfl⟩ | done) rfl (by simp) ?_ ?_
 . rintro i g hi
   refine SemA.o ?_
   refine sqcz ?_
   refine CondP.dec (fun hc => ?_) (fun hc => ?_)
   . obtain ⟨x, hx⟩ : ∃ x, bs[k + i]? = some x := ⟨bs[k + i]'(by omega), by simp⟩
     have c1 : (k : Int) + (i : Int) = ((k + i : Nat) : Int) := by omega
     have hn := hF_next hx (by omega) hl hk
     have hfl := hF_len hl hk (i := i) (by omega)
     refine tqcz (cj11 @wt @wa @hsr @hl1 @hl @c1 @hx @hn @hfl @vh @wz) ?_
     exact ⟨⟨by omega, by omega⟩, ⟨by omega, by omega⟩, by omega, i + 1, ⟨by omega, by omega⟩, rfl, rfl⟩
   . have e : i = 32 := by omega
     subst e
     refine tqcz (cj4 @wt @wa @vh @wz) ?_
     exact ⟨(), trivial⟩
 . rintro _ g tmp -
   have hfl := hF_len hl hk (i := 32) (by omega)
   refine tqcz (cj3 @vh @hfl @List.drop_zero.{0}) ?_
   exact Vw.cut ⟨by rw [AV.wo, AV.woL_eq, wb8], rfl, rfl⟩
def getH (bs : List UInt8) : Hdr := ⟨numF bs 0, hF bs 4 32, hF bs 36 32, numF bs 68, numF bs 72, numF bs 76⟩
theorem getH_ok {bs : List UInt8} (hl : bs.length = 80) : (getH bs).Ok := ⟨hF_len hl (by omega) (by omega), hF_len hl (by omega) (by omega)⟩
theorem get08_ok {T : Tbl} {a : AV} {bs : List UInt8} (hb : Bs T a bs) (hl : bs.length = 80) : CallA prog G 33 [a] T fun v T' es => v = .tu [.ag (getH bs).cs, .p (.int .i64 0)] /\ T' = T /\ es = [] := by
 refine CallA.wfs fun wf => ?_
 have wt := wf.t
 have wa := wf.arg a (by simp)
 have hsr := Sl.rules hb (by decide)
 have hr := Hdr.rules (getH_ok hl)
 have hv := vz68.2 _ (getH_ok hl)
 refine CallA.eV 4 func33 ntmps33 results33 ?_
 refine sqcx ?_
 refine tqcz (cj4 @hsr @hl @ez68 @bb2) ?_
 refine (number08_ok (k := 0) (hb.app _) hl (by omega)).det' ?_
 refine tqcz (cj2 @hsr @hl) ?_
 refine (hash08_ok (k := 4) (hb.app _) hl (by omega)).det' ?_
 refine tqcz (cj2 @hsr @hl) ?_
 refine (hash08_ok (k := 36) (hb.app _) hl (by omega)).det' ?_
 refine tqcz (cj2 @hsr @hl) ?_
 refine (number08_ok (k := 68) (hb.app _) hl (by omega)).det' ?_
 refine tqcz (cj2 @hsr @hl) ?_
 refine (number08_ok (k := 72) (hb.app _) hl (by omega)).det' ?_
 refine tqcz (cj2 @hsr @hl) ?_
 refine (number08_ok (k := 76) (hb.app _) hl (by omega)).det' ?_
 have l1 := hF_len (k := 4) (i := 32) hl (by omega) (by omega)
 have l2 := hF_len (k := 36) (i := 32) hl (by omega) (by omega)
 have e0 : z68.set 0 (AV.p (Value.int IntKind.u32 (numF bs 0).toNat)) = Hdr.cs ⟨numF bs 0, h0b, h0b, 0, 0, 0⟩ := rfl
 have k0 : Hdr.Ok ⟨numF bs 0, h0b, h0b, 0, 0, 0⟩ := ⟨rfl, rfl⟩
 have k1 : Hdr.Ok ⟨numF bs 0, hF bs 4 32, h0b, 0, 0, 0⟩ := ⟨l1, rfl⟩
 have k2 : Hdr.Ok ⟨numF bs 0, hF bs 4 32, hF bs 36 32, 0, 0, 0⟩ := ⟨l1, l2⟩
 have k3 : Hdr.Ok ⟨numF bs 0, hF bs 4 32, hF bs 36 32, numF bs 68, 0, 0⟩ := ⟨l1, l2⟩
 have k4 : Hdr.Ok ⟨numF bs 0, hF bs 4 32, hF bs 36 32, numF bs 68, numF bs 72, 0⟩ := ⟨l1, l2⟩
 have w1 := (Hdr.wr k0).1 _ l1
 have w2 := (Hdr.wr k1).2.1 _ l2
 have w3 := (Hdr.wr k2).2.2.1
 have w4 := (Hdr.wr k3).2.2.2.1
 have w5 := (Hdr.wr k4).2.2.2.2
 have hg : Hdr.cs ⟨numF bs 0, hF bs 4 32, hF bs 36 32, numF bs 68, numF bs 72, numF bs 76⟩ = (getH bs).cs := rfl
 simp -dsimp +decide (disch := omega) only [vt2, v1q, ↓reduceIte, Nat.reduceSub, Nat.reduceAdd, Nat.reduceMul, Nat.reduceLT, Int.reduceAdd, Int.reduceSub, Int.reduceToNat, v2q, hsr, hl, vz68, ez68, e0, l1, l2, w1, w2, w3, w4, w5, Hdr.cs_len k0, Hdr.cs_len k1, Hdr.cs_len k2, Hdr.cs_len k3, Hdr.cs_len k4, hg, hr, hv]
 refine tqcy (cj4 @vres @vone @vt @hr) ?_
 exact Vw.cut ⟨by simp only [AV.wo, AV.woL_eq, List.map_cons, List.map_nil, hr], rfl, rfl⟩
structure Gr where
 behind : UInt8
 step : UInt8
 mark : UInt8
 turn : UInt16
def Gr.cs (g : Gr) : List AV := [by8 g.behind, by8 g.step, by8 g.mark, w16 g.turn]
def chA (c : List Hdr) : AV := .vs (c.flatMap Hdr.cs) c.length
def chB (C : List (List Hdr)) : AObj := .buf 36 1 (C.map chA)
def hdB (l : List Hdr) : AObj := .buf 28 68 (l.flatMap Hdr.cs)
theorem ezt (k : UInt8) : [AV.p (Value.int IntKind.u8 (k.toNat : Int)), oB, oB, oB, oB, oB, oB, oB, oB, oB, oB, oB, oB, oB, oB, oB, oB, oB, oB, oB, oB, oB, oB, oB, oB, oB, oB, oB, oB, oB, oB, oB] = (tR k).map by8 := rfl
theorem chA_wo : (∀ (q : Nat -> Bool) c, (chA c).wo q = chA c) /\ (∀ i cs c, (chA c).pub i cs = chA c) /\ (∀ (q : Nat -> Bool) C, (chB C).wo q = chB C) /\ (∀ i cs C, (chB C).pub i cs = chB C) /\ (∀ (q : Nat -> Bool) (C : List (List Hdr)), List.map (AV.wo q) (C.map chA) = C.map chA) /\ (∀ i cs (C : List (List Hdr)), List.map (AV.pub i cs) (C.map chA) = C.map chA) := by
 have h1 : ∀ (q : Nat -> Bool) c, (chA c).wo q = chA c := fun q c => by rw [chA, AV.wo]
 have h2 : ∀ i cs c, (chA c).pub i cs = chA c := fun i cs c => by rw [chA, AV.pub]
 refine ⟨h1, h2, fun q C => ?_, fun i cs C => ?_, fun q C => ?_, fun i cs C => ?_⟩
 . rw [chB, AObj.wo, List.map_map]; congr 1
 . rw [chB, AObj.pub, List.map_map]; congr 1
 . rw [List.map_map]; exact List.map_congr_left fun c _ => h1 q c
 . rw [List.map_map]; exact List.map_congr_left fun c _ => h2 i cs c
theorem gr_at {gs : List Gr} {i : Nat} {x : Gr} (hx : gs[i]? = some x) {j : Nat} (hj : j < 4) : (gs.flatMap Gr.cs)[i * 4 + j]? = x.cs[j]? := by
 have h := flat_at (f := Gr.cs) (sz := 4) (fun y _ => rfl) hx
 rw [<- h, List.getElem?_take_of_lt hj, List.getElem?_drop]
theorem hdrs_pub (i : Nat) (cs : List AV) (l : List Hdr) : List.map (AV.pub i cs) (l.flatMap Hdr.cs) = l.flatMap Hdr.cs := by
 refine (List.map_congr_left fun a ha => ?_).trans (List.map_id _)
 obtain ⟨x, _, hx⟩ := List.mem_flatMap.1 ha
 simp only [Hdr.cs, List.mem_cons, List.mem_append, List.mem_map, List.not_mem_nil, or_false] at hx
 rcases hx with rfl | ⟨x, _, rfl⟩ | ⟨x, _, rfl⟩ | rfl | rfl | rfl <;> rfl
structure MadeI (p : Par) (i : Nat) (C : List (List Hdr)) (out : List Hdr) : Prop where
 n : 1 <= C.length /\ C.length <= i + 1
 o : out.length <= i
 ok : ∀ x ∈ out, x.Ok
 c : ∀ l ∈ C, (∀ x ∈ l, x.Ok) /\ l.length <= i + 1
theorem made_ok {T : Tbl} {p : Par} (ok : p.Ok) {a : AV} {gs : List Gr} (hb : Es T 4 Gr.cs a gs) (hl : gs.length <= 140737488355328) : CallA prog G 9 [.ag p.cs, a] T fun v T' es => ∃ hs : List Hdr, v = chA hs /\ T' = T /\ es = [] /\ (∀ x ∈ hs, x.Ok) /\ hs.length <= 40 := by
 refine CallA.wfs fun wf => ?_
 have wt := wf.t
 have wp := wf.p
 have wa := wf.arg a (by simp)
 have hr := Par.rules ok
 have hsr := Sl.rules hb.sl (by decide)
 have g0 := fun l => gn0 T (.cells 30 p.cs) l
 have hfr := Hdr.rules ok.f
 have hv := vz68.2 _ ok.f
 refine CallA.eV 13 func9 ntmps9 results9 ?_
 refine sqdx ?_
 refine tqdz (cj7 @hr @g0 @hfr @rep1 @ez68 @hv @vz68) ?_
 refine SemA.pub (T.length + 1) (gn1 T _ _ _) rfl hdr_clean ?_
 have gs1 : ∀ x y z o, (T ++ [x, y, z]).set (T.length + 1) o = T ++ [x, o, z] := fun x y z o => by rw [List.set_append_right _ _ (by omega), Nat.add_sub_cancel_left]; rfl
 have hv1 : AV.vs (List.take (1 * 68) (List.drop 0 p.first.cs)) 1 = chA [p.first] := by
  rw [chA, List.drop_zero, List.take_of_length_le (by rw [hfr.1]; decide)]; simp
 have wap := wf.argp a (by simp)
 simp -dsimp +decide only [vsk, v5q, ↓reduceIte, Nat.reduceSub, Nat.reduceAdd, Nat.reduceMul, Nat.reduceLT, Int.reduceAdd, Int.reduceSub, Int.reduceToNat, ci, vt, wp, wa, wap, hr, gs1, AV.pub]
 refine SemA.adopt 6 28 68 (by decide) rfl ?_
 refine tqdx @vt ?_
 have hfi : AV.vs p.first.cs 1 = chA [p.first] := by simp [chA]
 refine SemA.loopS (fun s : Nat × List (List Hdr) × List Hdr => [(1, a), (2, .ptr T.length 0), (5, .sl (T.length + 2) 0 s.2.1.length), (6, .sl (T.length + 3) 0 s.2.2.length), (7, wint (s.1 : Int))]) (fun s => T ++ [.cells 30 p.cs, .gone, chB s.2.1, hdB s.2.2]) (fun s => (s.1 <= gs.length /\ s.1 <= 40) /\ MadeI p s.1 s.2.1 s.2.2) (fun s => 40 - s.1) (0, [[p.first]], []) [] 0
  (fun t : List (List Hdr) × List Hdr => [(6, .sl (T.length + 3) 0 t.2.length)]) (fun t => T ++ [.cells 30 p.cs, .gone, chB t.1, hdB t.2]) (fun t => (∀ x ∈ t.2, x.Ok) /\ t.2.length <= 40) ⟨by simp, ⟨by simp, by simp, by simp, fun l hl => ?_⟩⟩ ⟨rfl, rfl, rfl, rfl, rfl, rfl⟩ ?_ (by simp) ?_ ?_
 . rw [List.mem_singleton.1 hl]
   exact ⟨fun x hx => by rw [List.mem_singleton.1 hx]; exact ok.f, by simp⟩
 . rw [hfi]; simp [chB, hdB]
 . rintro ⟨i, C, out⟩ g ⟨⟨hi1, hi2⟩, hI⟩
   dsimp only at hi1 hi2 hI
   refine SemA.o ?_
   refine tqdz @hsr ?_
   by_cases c1 : i < gs.length
   rotate_left
   . have i1 : ((i : Int) < (gs.length : Int)) = False := eq_false (by omega)
     refine tqdz (cj3 @hsr @i1 @bb2) ?_
     exact ⟨(C, out), ⟨hI.ok, by have := hI.o; show out.length <= 40; omega⟩, SeeL.done ⟨rfl, ⟨rfl, rfl⟩, rfl, by simp⟩⟩
   have i1 : ((i : Int) < (gs.length : Int)) = True := eq_true (by omega)
   by_cases c2 : i < 40
   rotate_left
   . have i2 : ((i : Int) < 40) = False := eq_false (by omega)
     refine tqdz (cj4 @hsr @i1 @i2 @bb2) ?_
     exact ⟨(C, out), ⟨hI.ok, by have := hI.o; show out.length <= 40; omega⟩, SeeL.done ⟨rfl, ⟨rfl, rfl⟩, rfl, by simp⟩⟩
   have i2 : ((i : Int) < 40) = True := eq_true (by omega)
   obtain ⟨x, hx⟩ : ∃ x, gs[i]? = some x := ⟨gs[i]'(by omega), by simp⟩
   have hfld := fun (K : AV -> Prop) => Sl.fld (K := K) hb.sl (by omega)
   have hq8 := Sl.loads hb.sl (P := prog) (t := 5) (by (simp -dsimp +decide only [vsk, v5q, ↓reduceIte, Nat.reduceSub, Nat.reduceAdd, Nat.reduceMul, Nat.reduceLT, Int.reduceAdd, Int.reduceSub, Int.reduceToNat, ci]))
   have ld0 : ∀ (l : Tbl) (K : AV -> Prop), loadA prog 5 (a.pl (i * 4)) (T ++ l) K = K (by8 x.behind) := fun l K => by rw [hq8.1 l _ K (by omega), show i * 4 = i * 4 + 0 from rfl, gr_at hx (by omega)]; rfl
   have ld1 : ∀ (l : Tbl) (K : AV -> Prop), loadA prog 5 (a.pl (i * 4 + 1)) (T ++ l) K = K (by8 x.step) := fun l K => by rw [hq8.1 l _ K (by omega), gr_at hx (by omega)]; rfl
   have ld2 : ∀ (l : Tbl) (K : AV -> Prop), loadA prog 5 (a.pl (i * 4 + 2)) (T ++ l) K = K (by8 x.mark) := fun l K => by rw [hq8.1 l _ K (by omega), gr_at hx (by omega)]; rfl
   have hw8 : ∀ x : UInt8, IntKind.i64.wrap (x.toNat : Int) = (x.toNat : Int) := fun x => IntWalk.i64_in _ (by have := x.toNat_lt; omega)
   obtain ⟨hI1, hI2⟩ := hI.n
   obtain ⟨k, hk⟩ : ∃ k, k = x.behind.toNat % C.length := ⟨_, rfl⟩
   have hkC : k < C.length := by rw [hk]; exact Nat.mod_lt _ hI1
   obtain ⟨c, hc⟩ : ∃ c, C[k]? = some c := ⟨C[k]'hkC, by simp⟩
   have hmod : (x.behind.toNat : Int).tmod (C.length : Int) = (k : Int) := by rw [hk]; rfl
   have hg2 := fun l => gn2 T (.cells 30 p.cs) .gone (chB C) l
   have hi0 : (0 <= (i : Int)) = True := eq_true (by omega)
   have csC : ∀ K : List AV -> Prop, csA (some (chB C)) K = K (C.map chA) := fun _ => rfl
   have hC0 : ((C.length : Int) ≠ 0) = True := eq_true (by omega)
   have hk0 : (0 <= (k : Int)) = True := eq_true (by omega)
   have hk1 : ((k : Int) < (C.length : Int)) = True := eq_true (by omega)
   have hCm : (C.map chA ≠ []) = True := eq_true (by intro e; rw [List.map_eq_nil_iff] at e; rw [e] at hI1; simp at hI1)
   have hCk : (C.map chA)[k]? = some (chA c) := by rw [List.getElem?_map, hc]; rfl
   have hkz : 0 + k * 1 = k := by omega
   refine tqdz (cj20 @hsr @i1 @i2 @bb2 @hfld @ld0 @hw8 @hmod @hg2 @hi0 @true_and @csC @hC0 @hk0 @hk1 @hCm @hCk @hkz @Int.toNat_natCast @and_true) ?_
   obtain ⟨hco, hcl⟩ := hI.c c (List.mem_of_getElem? hc)
   have hcE : ∀ U, Es U 68 Hdr.cs (chA c) c := fun U => Es.vs fun x hx => Hdr.cs_len (hco x hx)
   obtain ⟨R, hR⟩ : ∃ R, R = mineB p c (medB c + UInt32.ofInt 1 + x.step.toUInt32) (tR x.mark) 100 := ⟨_, rfl⟩
   have hRo : R.1.Ok := by rw [hR]; exact mineB_ok rfl
   have hRl := Hdr.cs_len hRo
   have hRr := Hdr.rules hRo
   have hvR := vz68.2 _ hRo
   have kk : (∀ k j : Nat, decide (T.length + k < T.length + j) = decide (k < j)) /\ (∀ j : Nat, decide (T.length < T.length + j) = decide (0 < j)) := ⟨fun k j => by simp, fun j => by simp⟩
   have hmed := fun (U : Tbl) => median13_ok (T := U) (hcE U) hco (by omega)
   have hmine := fun (U : Tbl) => mine13_ok (T := U) ok (hcE U) hco (by omega) (time := medB c + UInt32.ofInt 1 + x.step.toUInt32) (tries := 100) (root := tR x.mark) rfl
   rw [<- hR] at hmine
   have kf : ∀ l2, ∃ l', keepT (fun i => decide (i < T.length + 4)) (T ++ l2) = T ++ l' := fun l2 => keep_frontN T l2 4
   have kix := fun (l2 : Tbl) (ik : IntKind) (z : Int) (K : AV -> Prop) => (show ixA 4 a (.p (.int ik z)) (keepT (fun i => decide (i < T.length + 4)) (T ++ l2)) K = ((0 <= z /\ z < gs.length) /\ K (a.pl (z.toNat * 4))) by
    obtain ⟨l', e⟩ := kf l2
    rw [e]; exact (hb.sl.app l').ix (by decide) ik z)
   have kld := fun (l2 : Tbl) (K : AV -> Prop) => (show loadA prog 5 (a.pl (i * 4 + 1)) (keepT (fun i => decide (i < T.length + 4)) (T ++ l2)) K = K (by8 x.step) /\ loadA prog 5 (a.pl (i * 4 + 2)) (keepT (fun i => decide (i < T.length + 4)) (T ++ l2)) K = K (by8 x.mark) by
    obtain ⟨l', e⟩ := kf l2
    rw [e]; exact ⟨ld1 l' K, ld2 l' K⟩)
   have kl1 := fun l2 K => (kld l2 K).1
   have kl2 := fun l2 K => (kld l2 K).2
   have i1' : ((i : Int) < (gs.length : Int)) = True := i1
   refine SemA.drawU [(1, a), (2, .ptr T.length 0), (5, .sl (T.length + 2) 0 C.length), (6, .sl (T.length + 3) 0 out.length), (7, wint (i : Int)), (8, chA c), (9, .ptr (T.length + 4) 0), (10, .p (.bool R.2))] (T ++ [.cells 30 p.cs, .gone, chB C, hdB out, .cells 28 R.1.cs]) [] 23 (fun i => decide (i < T.length + 4)) (.st 0 true (.st 1 true (.st 2 true (.st 5 true (.st 6 true (.st 7 true (.st 8 true (.st 9 true (.st 10 true (.st 12 true (.st 13 true (.st 14 true (.st 15 true (.st 16 true (.st 17 true (.alt 3 (.st 4 true (.st 11 true (.alt 18 (.st 19 true (.st 20 true (.st 21 true (.st 22 false (.st 23 false (.st 24 true .nil)))))) 22 (.st 18 false (.st 19 true (.st 20 true (.st 21 true (.st 23 false (.st 24 true .nil))))))))) 22 (.st 3 false (.st 4 true (.st 11 true (.st 18 false (.st 19 true (.st 20 true (.st 21 true (.st 23 false (.st 24 true .nil))))))))))))))))))))))))) mixed (by kernel_rfl) ?_ ?_
   . simp -dsimp +decide (disch := omega) only [vsk, v5q, ↓reduceIte, Nat.reduceSub, Nat.reduceAdd, Nat.reduceMul, Nat.reduceLT, Int.reduceAdd, Int.reduceSub, Int.reduceToNat, v4q, vpu, vt, hr, hsr, kix, kl1, kl2, hfld, kk, keepT_get, keepO, ezt, hi0, i1', g0]
     refine ⟨?_, ?_⟩
     . refine (hmed _).det' ?_
       simp -dsimp +decide (disch := omega) only [vsk, v5q, ↓reduceIte, Nat.reduceSub, Nat.reduceAdd, Nat.reduceMul, Nat.reduceLT, Int.reduceAdd, Int.reduceSub, Int.reduceToNat, v4q, vpu, vt, wt, hr, kk, keepT_get, keepO, ez68, chA_wo]
       refine ⟨(hmine _).det' ?_, (hmine _).det' ?_⟩
       . simp -dsimp +decide (disch := omega) only [vsk, v5q, ↓reduceIte, Nat.reduceSub, Nat.reduceAdd, Nat.reduceMul, Nat.reduceLT, Int.reduceAdd, Int.reduceSub, Int.reduceToNat, v4q, vpu, vt, wt, wa, hr, kk, keepT_get, keepO, ez68, vz68, hRl, hRr, hvR, chA_wo]
         exact SeeL.done ⟨rfl, ⟨rfl, rfl, rfl, rfl, rfl, rfl, rfl, rfl, rfl⟩, rfl, by simp⟩
       . simp -dsimp +decide (disch := omega) only [vsk, v5q, ↓reduceIte, Nat.reduceSub, Nat.reduceAdd, Nat.reduceMul, Nat.reduceLT, Int.reduceAdd, Int.reduceSub, Int.reduceToNat, v4q, vpu, vt, wt, wa, hr, kk, keepT_get, keepO, ez68, vz68, hRl, hRr, hvR, chA_wo]
         exact SeeL.done ⟨rfl, ⟨rfl, rfl, rfl, rfl, rfl, rfl, rfl, rfl, rfl⟩, rfl, by simp⟩
     . refine (hmed _).det' ?_
       simp -dsimp +decide (disch := omega) only [vsk, v5q, ↓reduceIte, Nat.reduceSub, Nat.reduceAdd, Nat.reduceMul, Nat.reduceLT, Int.reduceAdd, Int.reduceSub, Int.reduceToNat, v4q, vpu, vt, wt, hr, kk, keepT_get, keepO, ez68, chA_wo]
       refine (hmine _).det' ?_
       simp -dsimp +decide (disch := omega) only [vsk, v5q, ↓reduceIte, Nat.reduceSub, Nat.reduceAdd, Nat.reduceMul, Nat.reduceLT, Int.reduceAdd, Int.reduceSub, Int.reduceToNat, v4q, vpu, vt, wt, wa, hr, kk, keepT_get, keepO, ez68, vz68, hRl, hRr, hvR, chA_wo]
       exact SeeL.done ⟨rfl, ⟨rfl, rfl, rfl, rfl, rfl, rfl, rfl, rfl, rfl⟩, rfl, by simp⟩
   . intro g tmp
     have g4 := fun l => gn4 T (.cells 30 p.cs) .gone (chB C) (hdB out) (.cells 28 R.1.cs) l
     have hoe : ∀ (q : Nat -> Bool) (l : List Hdr), (∀ x ∈ l, x.Ok) -> (hdB l).wo q = hdB l := fun q l hl => by rw [hdB, AObj.wo, hdrs_wo q hl]
     have hoo := fun q => hoe q out hI.ok
     have hnext : MadeI p (i + 1) C out := ⟨⟨hI1, by omega⟩, by have := hI.o; omega, hI.ok, fun l hl => ⟨(hI.c l hl).1, by have := (hI.c l hl).2; omega⟩⟩
     cases hR2 : R.2 with
     | false =>
       refine tqdz @bb2 ?_
       refine ⟨(i + 1, C, out), ⟨⟨⟨by dsimp only; omega, by dsimp only; omega⟩, hnext⟩, by dsimp only; omega⟩, SeeL.cut (T.length + 4) (by omega) ?_⟩
       refine tqdx (cj6 @vt @wt @wa @hr @chA_wo @hoo) ?_
       exact SeeL.done ⟨rfl, ⟨rfl, rfl, rfl, rfl, rfl, rfl⟩, rfl, by simp⟩
     | true =>
       have hq16 := Sl.loads hb.sl (P := prog) (t := 80) (by (simp -dsimp +decide only [vsk, v5q, ↓reduceIte, Nat.reduceSub, Nat.reduceAdd, Nat.reduceMul, Nat.reduceLT, Int.reduceAdd, Int.reduceSub, Int.reduceToNat, ci]))
       have ld3 : ∀ (l : Tbl) (K : AV -> Prop), loadA prog 80 (a.pl (i * 4 + 3)) (T ++ l) K = K (w16 x.turn) := fun l K => by rw [hq16.1 l _ K (by omega), gr_at hx (by omega)]; rfl
       by_cases ht : x.turn.toNat = 0
       . have it : ((x.turn.toNat : Int) = 0) = True := eq_true (by omega)
         have hwo := fun q => hdrs_wo q hI.ok
         have hfl : (out.flatMap Hdr.cs).length = out.length * 68 := flat_len fun y hy => Hdr.cs_len (hI.ok y hy)
         have hfc : (c.flatMap Hdr.cs).length = c.length * 68 := flat_len fun y hy => Hdr.cs_len (hco y hy)
         have hoc : ones (c.flatMap Hdr.cs) = true := hdrs_ones hco
         have hsc : ∀ (U : Tbl) (K : List AV -> Nat -> Prop), srcA 68 (chA c) U K = (K (c.flatMap Hdr.cs) c.length) := fun U K => by
          show (_ /\ _) = _; rw [hfc]; simp
         have hnx : out.flatMap Hdr.cs ++ R.1.cs = (out ++ [R.1]).flatMap Hdr.cs := by simp
         have hnc : c.flatMap Hdr.cs ++ R.1.cs = (c ++ [R.1]).flatMap Hdr.cs := by simp
         have hoR : ∀ x ∈ out ++ [R.1], x.Ok := fun x hx => by
          rcases List.mem_append.1 hx with hx | hx
          . exact hI.ok x hx
          . rw [List.mem_singleton.1 hx]; exact hRo
         have hcR : ∀ x ∈ c ++ [R.1], x.Ok := fun x hx => by
          rcases List.mem_append.1 hx with hx | hx
          . exact hco x hx
          . rw [List.mem_singleton.1 hx]; exact hRo
         have hwc := fun q => hdrs_wo q hco
         have hwn := fun q => hdrs_wo q hoR
         have hwR := fun q => hdrs_wo q hcR
         have hCl : (C.map chA).length = C.length * 1 := by rw [List.length_map, Nat.mul_one]
         have b4 : ((C.length + 1) * 24 <= 140737488355328 /\ C.length + 1 <= 140737488355328) = True := eq_true ⟨by omega, by omega⟩
         have hI0 := hI.o
         have b1 : ((out.length + 1) * 80 <= 140737488355328 /\ out.length + 1 <= 140737488355328) = True := eq_true ⟨by omega, by omega⟩
         have b2 : (c.length * 80 <= 140737488355328 /\ c.length <= 140737488355328) = True := eq_true ⟨by omega, by omega⟩
         have b3 : ((c.length + 1) * 80 <= 140737488355328 /\ c.length + 1 <= 140737488355328) = True := eq_true ⟨by omega, by omega⟩
         have s3 : ∀ x y z w u v o, (T ++ [x, y, z, w, u, v]).set (T.length + 3) o = T ++ [x, y, z, o, u, v] := fun x y z w u v o => by rw [List.set_append_right _ _ (by omega), Nat.add_sub_cancel_left]; rfl
         simp -dsimp +decide (disch := omega) only [vsk, v5q, ↓reduceIte, Nat.reduceSub, Nat.reduceAdd, Nat.reduceMul, Nat.reduceLT, Int.reduceAdd, Int.reduceSub, Int.reduceToNat, v2q, wt, wa, bb2, hsr, hfld, hi0, i1', ld3, it, hr, hRr, rep1, ez68, vz68, hvR, g4, hdB, hwo, hwc, hwn, hfl, hfc, chA_wo, hsc, hoc, hnx, hnc, b1, b2, b3, b4, s3, true_and, chB, hCl, hwR]
         have hnext3 : MadeI p (i + 1) (C ++ [c ++ [R.1]]) (out ++ [R.1]) := by
          refine ⟨⟨by rw [List.length_append, List.length_singleton]; omega, by rw [List.length_append, List.length_singleton]; omega⟩, by rw [List.length_append, List.length_singleton]; omega, hoR, fun l hl => ?_⟩
          rcases List.mem_append.1 hl with hl | hl
          . exact hnext.c l hl
          . rw [List.mem_singleton.1 hl]
            exact ⟨hcR, by rw [List.length_append, List.length_singleton]; omega⟩
         refine ⟨(i + 1, C ++ [c ++ [R.1]], out ++ [R.1]), ⟨⟨⟨by dsimp only; omega, by dsimp only; omega⟩, hnext3⟩, by dsimp only; omega⟩, ?_⟩
         refine SeeL.pub (T.length + 6) (gn6 T _ _ _ _ _ _ _ _) rfl (hdrs_clean _) ?_
         have hp1 : AV.pub (T.length + 6) (List.flatMap Hdr.cs (c ++ [R.1])) (.sl (T.length + 6) 0 (c.length + 1)) = chA (c ++ [R.1]) := by
          have e : AV.pub (T.length + 6) (List.flatMap Hdr.cs (c ++ [R.1])) (.sl (T.length + 6) 0 (c.length + 1)) = .vs (List.flatMap Hdr.cs (c ++ [R.1])) (c.length + 1) := by (simp -dsimp +decide only [vsk, v5q, ↓reduceIte, Nat.reduceSub, Nat.reduceAdd, Nat.reduceMul, Nat.reduceLT, Int.reduceAdd, Int.reduceSub, Int.reduceToNat, ci])
          rw [e, chA, List.length_append, List.length_singleton]
         have hCN : List.map (AV.pub (T.length + 6) (List.flatMap Hdr.cs (c ++ [R.1]))) (List.map chA C ++ [AV.sl (T.length + 6) 0 (c.length + 1)]) = (C ++ [c ++ [R.1]]).map chA := by
          rw [List.map_append, chA_wo.2.2.2.2.2, List.map_append, List.map_cons, List.map_nil, hp1]; rfl
         have hpn : ∀ i cs, List.map (AV.pub i cs) (List.flatMap Hdr.cs (out ++ [R.1])) = List.flatMap Hdr.cs (out ++ [R.1]) := fun i cs => hdrs_pub i cs _
         refine tqdx (cj11 @vt @wt @wa @wp @wap @hr @chA_wo @hwn @hwR @hCN @hpn) ?_
         refine SeeL.cut (T.length + 4) (by omega) ?_
         refine tqdx (cj9 @vt @wt @wa @wp @wap @hr @chA_wo @hwn @hwR) ?_
         exact SeeL.done ⟨rfl, ⟨rfl, rfl, by simp, by simp, rfl, rfl⟩, rfl, by simp⟩
       . have it : ((x.turn.toNat : Int) = 0) = False := eq_false (by omega)
         refine tqdz (cj8 @bb2 @hsr @hfld @hi0 @i1' @ld3 @it @hRr) ?_
         refine (rputh_own hRo).det' ?_
         have hbl := Hdr.bytes_len hRo
         obtain ⟨j, hj⟩ : ∃ j, j = x.turn.toNat / 8 % 80 := ⟨_, rfl⟩
         have hb1 : IntKind.i64.wrap (x.turn.toNat : Int) = (x.turn.toNat : Int) := IntWalk.i64_in _ (by have := x.turn.toNat_lt; omega)
         have hb2 : (x.turn.toNat : Int).tdiv 8 = ((x.turn.toNat / 8 : Nat) : Int) := rfl
         have hb4 : IntKind.i64.wrap ((x.turn.toNat / 8 : Nat) : Int) = ((x.turn.toNat / 8 : Nat) : Int) := IntWalk.i64_in _ (by have := x.turn.toNat_lt; omega)
         have hb3 : ((x.turn.toNat / 8 : Nat) : Int).tmod 80 = (j : Int) := by rw [hj]; rfl
         have hj80 : j < 80 := by omega
         obtain ⟨y, hy⟩ : ∃ y, R.1.bytes[j]? = some y := ⟨R.1.bytes[j]'(by omega), by simp⟩
         have hym : (R.1.bytes.map by8)[j]? = some (by8 y) := by rw [List.getElem?_map, hy]; rfl
         have hbne : (R.1.bytes.map by8 ≠ []) = True := eq_true fun e => by rw [List.map_eq_nil_iff] at e; rw [e] at hbl; cases hbl
         refine tqdz @hr ?_
         refine SemA.draw (fun i => true) [(0, true), (1, true), (2, true), (3, true), (4, true), (5, true), (6, true), (7, true), (8, true), (9, true), (10, true), (11, true), (12, true), (13, true), (14, true), (15, true), (16, true), (17, true), (18, true), (19, true), (20, false)] mixed (by kernel_rfl) ?_
         refine tqdz (cj15 @hr @kallT @hsr @hfld @hi0 @i1' @ld3 @hb1 @hb2 @hb3 @hb4 @hbne @hbl @hym @hy) ?_
         obtain ⟨bs, hbs⟩ : ∃ bs, bs = R.1.bytes.set j (y ^^^ u8_shl (UInt8.ofInt 1) (x.turn.toNat % 8)) := ⟨_, rfl⟩
         have hbsl : bs.length = 80 := by rw [hbs, List.length_set, hbl]
         rw [<- hbs]
         have hB : ∀ l, Bs (T ++ .cells 30 p.cs :: .gone :: chB C :: hdB out :: .cells 28 R.1.cs :: .cells 28 R.1.cs :: .buf 5 1 (bs.map by8) :: l) (.sl (T.length + 6) 0 80) bs := fun l => by
          have := Bs.obj (bs := bs) (gn6 T (.cells 30 p.cs) .gone (chB C) (hdB out) (.cells 28 R.1.cs) (.cells 28 R.1.cs) (.buf 5 1 (bs.map by8)) l) rfl
          rwa [hbsl] at this
         refine ⟨⟨by omega, by omega⟩, by omega, ⟨by omega, by omega⟩, by omega, (get08_ok (hB []) hbsl).det' ?_⟩
         obtain ⟨h, hh⟩ : ∃ h, h = getH bs := ⟨_, rfl⟩
         have hho : h.Ok := by rw [hh]; exact getH_ok hbsl
         rw [<- hh]
         have hhr := Hdr.rules hho
         have hhv := vz68.2 _ hho
         have hwr : wrA R.1.cs 0 h.cs = h.cs := wrA_all (by rw [hRl, Hdr.cs_len hho])
         have hwo := fun q => hdrs_wo q hI.ok
         have hfl : (out.flatMap Hdr.cs).length = out.length * 68 := flat_len fun y hy => Hdr.cs_len (hI.ok y hy)
         have hnx : out.flatMap Hdr.cs ++ h.cs = (out ++ [h]).flatMap Hdr.cs := by simp
         have hoh : ∀ x ∈ out ++ [h], x.Ok := fun x hx => by
          rcases List.mem_append.1 hx with hx | hx
          . exact hI.ok x hx
          . rw [List.mem_singleton.1 hx]; exact hho
         have hwh := fun q => hdrs_wo q hoh
         have hI0 := hI.o
         have b1 : ((out.length + 1) * 80 <= 140737488355328 /\ out.length + 1 <= 140737488355328) = True := eq_true ⟨by omega, by omega⟩
         simp -dsimp +decide (disch := omega) only [vsk, v5q, ↓reduceIte, Nat.reduceSub, Nat.reduceAdd, Nat.reduceMul, Nat.reduceLT, Int.reduceAdd, Int.reduceSub, Int.reduceToNat, v2q, wt, wa, bb2, hr, hRr, hhr, hhv, hwr, rep1, ez68, vz68, hdB, hwo, hfl, chA_wo, hnx, hwh, b1, true_and]
         have hnext2 : MadeI p (i + 1) C (out ++ [h]) := ⟨hnext.n, by rw [List.length_append, List.length_singleton]; omega, hoh, hnext.c⟩
         refine ⟨(i + 1, C, out ++ [h]), ⟨⟨⟨by dsimp only; omega, by dsimp only; omega⟩, hnext2⟩, by dsimp only; omega⟩, SeeL.cut (T.length + 4) (by omega) ?_⟩
         refine tqdx (cj6 @vt @wt @wa @hr @chA_wo @hwh) ?_
         exact SeeL.done ⟨rfl, ⟨rfl, rfl, rfl, by simp, rfl, rfl⟩, rfl, by simp⟩
 . rintro ⟨C, out⟩ g tmp ⟨h1, h2⟩
   refine sqdz ?_
   refine Vw.pub (T.length + 3) (gn3 T _ _ _ _ _) rfl (hdrs_clean _) ?_
   refine tqdx (cj2 @vt @wp) ?_
   exact Vw.cut ⟨out, by rw [chA, AV.wo], rfl, rfl, h1, h2⟩
theorem open_slg {α : Type} {P : Program} {t e : TypeId} {f : α -> List AV} {d : Dat} (hd : HasT P t d) (hu : P.underlying t = some (.slice e)) (hb : 1 <= P.bytesOf e)
 (h1 : ∀ d, HasT P e d -> ∃ x : α, d.avs = f x) : ∃ xs : List α, d.arg = .vs (xs.flatMap f) xs.length /\ xs.length <= 140737488355328 := by
 obtain ⟨l, rfl, hl, hm⟩ := hd.slice hu
 obtain ⟨xs, h2, h3, -⟩ := open_all (f := f) (Ok := fun _ => True) (l := l) fun y hy => (h1 y (hm y hy)).elim fun x hx => ⟨x, hx, trivial⟩
 have e : (Dat.sl l).avs = [.vs (xs.flatMap f) xs.length] := by rw [Dat.avs_sl, h2, h3]
 refine ⟨xs, ?_, ?_⟩
 . rw [Dat.arg, e]
   . rfl
   . intro l h; cases h
 . rw [<- h3] at hl
   have := Nat.le_mul_of_pos_right xs.length hb
   have hr : reachBytes = 140737488351232 := rfl
   rw [hr] at hl
   first | omega | (rw [h3] at *; omega)
theorem open_grow {d : Dat} (h : HasT prog 82 d) : ∃ x : Gr, d.avs = x.cs := by
 obtain ⟨l, rfl, hl, hf⟩ := h.struct Tryz.underlying82
 match l, hl with
 | [d0, d1, d2, d3], _ =>
   obtain ⟨a, e0⟩ := open_u8 Tryz.underlying5 d0 (hf 0 _ d0 rfl rfl)
   obtain ⟨b, e1⟩ := open_u8 Tryz.underlying5 d1 (hf 1 _ d1 rfl rfl)
   obtain ⟨c, e2⟩ := open_u8 Tryz.underlying5 d2 (hf 2 _ d2 rfl rfl)
   obtain ⟨e, e3⟩ := open_u16 Tryz.underlying80 d3 (hf 3 _ d3 rfl rfl)
   subst e0 e1 e2 e3
   exact ⟨⟨a, b, c, e⟩, by simp only [Dat.avs_ag, List.flatMap_cons, List.flatMap_nil, Dat.avs]; rfl⟩
theorem open_grows {d : Dat} (h : HasT prog 22 d) : ∃ gs : List Gr, d.arg = .vs (gs.flatMap Gr.cs) gs.length /\ gs.length <= 140737488355328 :=
 open_slg h Tryz.underlying22 (Nat.le_of_ble_eq_true (by kernel_rfl)) fun _ hd => open_grow hd
structure BestI (s : Fst) (C : List (List Hdr)) (b : Nat) : Prop where
 g : s.G
 l : C.length = s.bc.length
 c : ∀ (k i : Nat), s.bc[k]? = some i -> ∃ r, Path s (i :: r) /\ C[k]? = some (hds s (i :: r))
 b : s.bc[b]? = some s.top
theorem hds_last (s : Fst) (i : Nat) (r : List Nat) : (hds s (i :: r)).getLast? = some (s.hd i) := by simp [hds]
def idsF (s : Fst) : List (List UInt8) := s.bc.map fun i => (s.hd i).id
theorem look_ids {s : Fst} (g : s.G) {id : List UInt8} {i : Nat} (h : s.look id = some i) : ∃ k : Nat, s.bc[k]? = some i /\ (idsF s)[k]? = some id := by
 obtain ⟨h1, h2⟩ := g.look h
 obtain ⟨k, hk, hki⟩ := List.getElem_of_mem h1
 have hk' : s.bc[k]? = some i := by rw [List.getElem?_eq_getElem hk, hki]
 exact ⟨k, hk', by rw [idsF, List.getElem?_map, hk']; exact congrArg some h2⟩
theorem none_ids {s : Fst} (g : s.G) {id : List UInt8} (h : s.look id = none) : id ∉ idsF s := by
 intro hm
 obtain ⟨i, hi, e⟩ := List.mem_map.1 hm
 exact g.look_none h i hi e
theorem path_ht {s : Fst} {i : Nat} {r : List Nat} {x : Nd} (h : Path s (i :: r)) (hx : s.nd i = some x) : (hds s (i :: r)).length = x.ht + 1 := by
 obtain ⟨y, h1, h2, _⟩ := h.head
 rw [hx] at h1; cases h1
 rw [hds_len, List.length_cons, h2]
theorem hds_sim {s s' : Fst} {l : List Nat} (h : ∀ j ∈ l, s'.hd j = s.hd j) : hds s' l = hds s l := by rw [hds, hds, List.map_congr_left h]
theorem best_step {N : Nat} {s s' : Fst} {C : List (List Hdr)} {b : Nat} {hd : Hdr} {ht : Nat} {gone : List (List UInt8)} {e : Int} (hB : BestI s C b) (h : AddR N s hd s' ht gone e) (hG : s'.G) (hroom : s.room = 100) (hl : s.bc.length <= 50) :
 gone = [] /\ ((∃ (k : Nat) (c : List Hdr), (idsF s)[k]? = some hd.id /\ C[k]? = some c /\ e = 0 /\ ht + 1 = c.length /\ s' = s) ∨
  (hd.id ∉ idsF s /\ ((hd.prev ∉ idsF s /\ e = 9 /\ ht = 0 /\ s' = s) ∨
   ∃ (k : Nat) (c : List Hdr), (idsF s)[k]? = some hd.prev /\ C[k]? = some c /\ ((rightE s.p c hd ≠ 0 /\ e = rightE s.p c hd /\ ht = 0 /\ s' = s) ∨
    (rightE s.p c hd = 0 /\ e = 0 /\ ht = c.length /\ ∃ cb, C[b]? = some cb /\ BestI s' (C ++ [c ++ [hd]]) (if sumH cb < sumH (c ++ [hd]) then C.length else b)))))) := by
 have g := hB.g
 cases h with
 | @known i x h1 h2 =>
   obtain ⟨k, k1, k2⟩ := look_ids g h1
   obtain ⟨r, p1, p2⟩ := hB.c k i k1
   exact ⟨rfl, .inl ⟨k, _, k2, p2, rfl, (path_ht p1 h2).symm, rfl⟩⟩
 | none h1 h2 => exact ⟨rfl, .inr ⟨none_ids g h1, .inl ⟨none_ids g h2, rfl, rfl, rfl⟩⟩⟩
 | @wrong p r h1 h2 h3 h4 =>
   obtain ⟨k, k1, k2⟩ := look_ids g h2
   obtain ⟨r', p1, p2⟩ := hB.c k p k1
   have := Path.uniq h3 p1; subst this
   exact ⟨rfl, .inr ⟨none_ids g h1, .inr ⟨k, _, k2, p2, .inl ⟨h4, rfl, rfl, rfl⟩⟩⟩⟩
 | @right p i r rt y z s2 _ _ h1 h2 h3 h4 h5 h6 h6' h7 h8 h9 h10 =>
   obtain ⟨k, k1, k2⟩ := look_ids g h2
   obtain ⟨r', p1, p2⟩ := hB.c k p k1
   have := Path.uniq h3 p1; subst this
   obtain ⟨rb, q1, q2⟩ := hB.c b s.top hB.b
   have := Path.uniq h8 q1; subst this
   have hni : s.nd i = Option.none := by
    cases hx : s.nd i with
    | none => rfl
    | some x => exact absurd (h6 i x hx) (Nat.lt_irrefl _)
   have hzw : z.wk = sumH (hds s (s.top :: rt)) := g.w _ z rt h7 h8 g.t
   have hyw : y.wk = sumH (hds s (p :: r)) := g.w _ y r h5 h3 (List.mem_of_getElem? k1)
   have hW : (y.wk + wkH hd) % 2 ^ 256 = sumH (hds s (p :: r) ++ [hd]) := by rw [sumH_snoc, hyw]
   obtain ⟨f1, f2, f3, f4, f5, f6, f7, f8⟩ := addN_f s hd i p y
   have sim := addN_sim (hd := hd) (i := i) h5
   have pN := Path.addN (hd := hd) h5 hni h3
   have pO : ∀ {l : List Nat}, Path s l -> Path (s.addN hd i p y) l := fun h => h.addO h5 hni
   have hhi : (s.addN hd i p y).hd i = hd := by
    have : (s.addN hd i p y).nd i = some (Fst.newN hd p y) := by rw [addN_nd, if_pos rfl]
    rw [Fst.hd_at this]; rfl
   have hold : ∀ {l : List Nat}, Path s l -> hds (s.addN hd i p y) l = hds s l := fun h => hds_sim fun j hj => sim.hd (by obtain ⟨x, hx⟩ := h.all j hj; exact Fst.node_ne hni hx)
   rw [hW, hzw] at h9
   generalize s.addN hd i p y = s1 at *
   have hnew : hds s1 (i :: p :: r) = hds s (p :: r) ++ [hd] := by
    rw [hds, List.map_cons, List.reverse_cons, hhi]
    show hds s1 (p :: r) ++ [hd] = _
    rw [hold h3]
   have key : s2.bc = s.bc ++ [i] /\ (∀ l, Path s1 l -> Path s2 l) /\ (∀ l, hds s2 l = hds s1 l) /\ s2.top = (if sumH (hds s (s.top :: rt)) < sumH (hds s (p :: r) ++ [hd]) then i else s.top) /\ s2.room = 100 := by
    by_cases hw : sumH (hds s (s.top :: rt)) < sumH (hds s (p :: r) ++ [hd])
    . rw [if_pos hw] at h9
      have ts := turn_sim s1 (s.top :: rt) (i :: p :: r) i
      obtain ⟨t1, t2, t3, t4, t5, t6, t7, t8, t9⟩ := turn_f s1 (s.top :: rt) (i :: p :: r) i
      rw [h9, if_pos hw]
      exact ⟨t6.trans f6, fun l hl => hl.sim ts fun _ _ => trivial, fun l => hds_sim fun j _ => ts.hd trivial, t8, t4.trans (f4.trans hroom)⟩
    . rw [if_neg hw] at h9
      rw [h9, if_neg hw]
      exact ⟨f6, fun l hl => hl, fun l => rfl, f8, f4.trans hroom⟩
   obtain ⟨b1, b2, b3, b4, b5⟩ := key
   have htop : ∃ x, s2.nd s2.top = some x := by
    have ht1 : ∃ l, Path s2 (s2.top :: l) := by
     rw [b4]
     split
     . exact ⟨p :: r, b2 _ pN⟩
     . exact ⟨rt, b2 _ (pO h8)⟩
    obtain ⟨l, hl⟩ := ht1
    obtain ⟨x, hx, _⟩ := hl.head
    exact ⟨x, hx⟩
   obtain ⟨x, hx⟩ := htop
   obtain ⟨rfl, rfl⟩ := h10.stop hx (by rw [b1, b5, List.length_append, List.length_singleton]; omega)
   have hyl : y.ht + 1 = (hds s (p :: r)).length := (path_ht h3 h5).symm
   refine ⟨rfl, .inr ⟨none_ids g h1, .inr ⟨k, _, k2, p2, .inr ⟨h4, rfl, hyl, _, q2, ?_⟩⟩⟩⟩
   refine ⟨hG, by rw [b1, List.length_append, List.length_append, hB.l]; rfl, fun j q hq => ?_, ?_⟩
   . rw [b1] at hq
     by_cases hj : j < s.bc.length
     . rw [List.getElem?_append_left hj] at hq
       obtain ⟨r2, w1, w2⟩ := hB.c j q hq
       refine ⟨r2, b2 _ (pO w1), ?_⟩
       rw [List.getElem?_append_left (by rw [hB.l]; exact hj), b3, hold w1]; exact w2
     . rw [List.getElem?_append_right (by omega)] at hq
       have hj2 : j = s.bc.length := by
        have := (List.getElem?_eq_some_iff.1 hq).1
        simp at this; omega
       subst hj2
       rw [Nat.sub_self] at hq
       have : i = q := by simpa using hq
       subst this
       refine ⟨p :: r, b2 _ pN, ?_⟩
       rw [List.getElem?_append_right (by rw [hB.l]; exact Nat.le_refl _), hB.l, Nat.sub_self, b3, hnew]; rfl
   . rw [b1, b4]
     split
     . rw [List.getElem?_append_right (by rw [hB.l]; exact Nat.le_refl _), hB.l, Nat.sub_self]; rfl
     . rw [List.getElem?_append_left (List.getElem?_eq_some_iff.1 hB.b).1]; exact hB.b
def posB (l : List (List UInt8)) (id : List UInt8) : Nat -> Int
 | 0 => -1
 | k + 1 => if l[k]? = some id then (k : Int) else posB l id k
theorem posB_none {l : List (List UInt8)} {id : List UInt8} (h : id ∉ l) : ∀ n, posB l id n = -1
 | 0 => rfl
 | k + 1 => by
   rw [posB, if_neg fun e => h (List.mem_of_getElem? e)]
   exact posB_none h k
theorem posB_at {l : List (List UInt8)} {id : List UInt8} {k : Nat} (hn : l.Nodup) (hk : l[k]? = some id) : ∀ n, k < n -> posB l id n = (k : Int)
 | 0, h => by omega
 | m + 1, h => by
   rw [posB]
   by_cases e : l[m]? = some id
   . rw [if_pos e]
     have : k = m := (List.getElem?_inj (List.getElem?_eq_some_iff.1 hk).1 hn).1 (hk.trans e.symm)
     rw [this]
   . rw [if_neg e]
     have : k ≠ m := fun e' => e (e' ▸ hk)
     exact posB_at hn hk m (by omega)
theorem mk0_best (p : Par) (n rm : Nat) : BestI (Fst.mk0 p n rm) [[p.first]] 0 := by
 refine ⟨mk0_G p n rm, rfl, fun k i hk => ?_, rfl⟩
 have hk' : ([n + 1] : List Nat)[k]? = some i := hk
 cases k with
 | zero =>
   have : n + 1 = i := by simpa using hk'
   subst this
   exact ⟨[], mk0_path p n rm, by rw [hds, List.map_cons, List.map_nil, mk0_hd]; rfl⟩
 | succ k => simp at hk'
theorem BestI.ids {s : Fst} {C : List (List Hdr)} {b : Nat} (h : BestI s C b) {k : Nat} {c : List Hdr} (hc : C[k]? = some c) : ∃ la, c.getLast? = some la /\ (idsF s)[k]? = some la.id /\ c ≠ [] := by
 have hk := (List.getElem?_eq_some_iff.1 hc).1
 rw [h.l] at hk
 obtain ⟨i, hi⟩ : ∃ i, s.bc[k]? = some i := ⟨s.bc[k], by simp [hk]⟩
 obtain ⟨r, h1, h2⟩ := h.c k i hi
 rw [hc] at h2; cases h2
 refine ⟨s.hd i, hds_last s i r, by rw [idsF, List.getElem?_map, hi]; rfl, fun e => ?_⟩
 have := hds_last s i r
 rw [e] at this
 simp at this
theorem BestI.nodup {s : Fst} {C : List (List Hdr)} {b : Nat} (h : BestI s C b) : (idsF s).Nodup := h.g.u
theorem FT_setFr {V : Tbl} {s : Fst} {k : Nat} (h : s.Fr k) (o : AObj) : (FT V s).set k o = FT (V.set k o) s := by
 refine List.ext_getElem? fun i => ?_
 by_cases hi : i = k
 . subst hi
   rw [FT_fr h]
   by_cases hl : i < V.length
   . rw [List.getElem?_set_self (by rw [FT_len]; exact hl), List.getElem?_set_self hl]
   . rw [List.getElem?_eq_none (by rw [List.length_set, FT_len]; omega), List.getElem?_eq_none (by rw [List.length_set]; omega)]
 . rw [List.getElem?_set_ne (Ne.symm hi), FT_at, FT_at, List.getElem?_set_ne (Ne.symm hi)]
theorem WS.wo1 {B : Tbl} {D : Nat -> Prop} {s0 : Fst} {V : Tbl} {s : Fst} (h : WS B D s0 V s) {k : Nat} (hk : s.Fr k) (hV : V.map (AObj.wo (· == k)) = V) : (FT V s).map (AObj.wo (· == k)) = FT V s := by
 have hnode : ∀ i, (∃ x, s.nd i = some x) -> (i == k) = false := fun i ⟨x, hx⟩ => by
  rw [beq_eq_false_iff_ne]; intro e; rw [e, hk.nd] at hx; cases hx
 have hm : (s.m == k) = false := by rw [beq_eq_false_iff_ne]; exact fun e => hk.m e.symm
 have ht : (s.top == k) = false := hnode _ (h.g.x _ h.g.t)
 have he : ∀ e ∈ s.es, (e.2 == k) = false := fun e he => by
  rw [h.g.e] at he
  obtain ⟨i, hi, rfl⟩ := List.mem_map.1 he
  exact hnode i (h.g.x i hi)
 have hb : ∀ i ∈ s.bc, (i == k) = false := fun i hi => hnode i (h.g.x i hi)
 have ho : ∀ i x j, s.nd i = some x -> x.on = some j -> (j == k) = false := fun i x j hi hj => hnode j (h.w.n i x j hi hj)
 have hoa : s.oa.wo (· == k) = s.oa := by
  rw [h.w.o, AV.wo, show (s.b == k) = false by rw [beq_eq_false_iff_ne]; exact fun e => hk.b e.symm]; rfl
 rw [FT_wo h.w.r.p h.w.r.h hm ht he hb ho, hV, hoa]
theorem FW.set {V : Tbl} {s : Fst} (h : FW V s) {k : Nat} {o : AObj} (hw : ∀ q : Nat -> Bool, (∀ i, i < V.length -> q i = false) -> o.wo q = o) (hb : o.wo (· == s.b) = o) : FW (V.set k o) s := by
 have hl : (V.set k o).length = V.length := List.length_set
 have key : ∀ q : Nat -> Bool, V.map (AObj.wo q) = V -> o.wo q = o -> (V.set k o).map (AObj.wo q) = V.set k o := fun q h1 h2 => by
  rw [List.map_set, h1, h2]
 exact ⟨by rw [hl]; exact h.i, by rw [hl]; exact h.r, ⟨fun q hq => key q (h.v.wo q (by rw [hl] at hq; exact hq)) (hw q (by rw [hl] at hq; exact hq)), key _ h.v.b hb⟩, h.o, h.k, h.n, h.l⟩
theorem WS.set {B : Tbl} {D : Nat -> Prop} {s0 : Fst} {V : Tbl} {s : Fst} (h : WS B D s0 V s) {k : Nat} {o : AObj} (hk : B.length <= k) (hw : ∀ q : Nat -> Bool, o.wo q = o) : WS B D s0 (V.set k o) s := by
 obtain ⟨X, hX⟩ := h.x
 exact ⟨h.w.set (fun q _ => hw q) (hw _), h.g, h.b, h.f, ⟨X.set (k - B.length) o, by rw [hX, List.set_append_right _ _ hk]⟩, h.fr, fun j hj => by rw [List.length_set]; exact h.d j hj⟩
structure BestJ (V0 : Tbl) (m : Nat) (s0 : Fst) (i : Nat) (V : Tbl) (s : Fst) (C : List (List Hdr)) (b : Nat) : Prop where
 w : WS V0 (fun k => k <= m ∨ k = V0.length + 1) s0 V s
 v : V[V0.length + 1]? = some (chB C)
 bi : BestI s C b
 rm : s.room = 100
 ln : s.bc.length <= i + 1
 pp : s.p = s0.p
 kv : V.map (AObj.wo (· == V0.length + 1)) = V
theorem gone_wo (q : Nat -> Bool) (k : Nat) : (List.replicate k AObj.gone).map (AObj.wo q) = List.replicate k AObj.gone := by rw [List.map_replicate, AObj.wo]
theorem forestBest_ok {T : Tbl} {interval : UInt8} {gs : List Gr} (hl : gs.length <= 140737488355328) : CallA prog G 3 [by8 interval, .vs (gs.flatMap Gr.cs) gs.length] T fun v _ _ => v = .p (.bool true) := by
 refine CallA.wfs fun wf => ?_
 have wt := wf.t
 obtain ⟨iv, hiv⟩ : ∃ iv, iv = 2 + interval.toNat % 6 := ⟨_, rfl⟩
 have hw8 : ∀ x : UInt8, IntKind.i64.wrap (x.toNat : Int) = (x.toNat : Int) := fun x => IntWalk.i64_in _ (by have := x.toNat_lt; omega)
 have hmod : (interval.toNat : Int).tmod 6 = ((interval.toNat % 6 : Nat) : Int) := rfl
 have hadd : (2 : Int) + ((interval.toNat % 6 : Nat) : Int) = (iv : Int) := by omega
 obtain ⟨p, hp⟩ : ∃ p, p = easyP (iv : Int) 10 := ⟨_, rfl⟩
 have hpo : p.Ok := by rw [hp]; exact easy_ok' (by omega)
 have hpm : mayB p = true := by rw [hp]; exact easy_may (by omega) (by omega) (by decide) (by decide)
 have hppa : p.pa = .p (.slice none 0 0) := by rw [hp]; rfl
 have hr := Par.rules hpo
 have hpw := vz72.2 _ hpo
 have g0 := fun l => gn0 T (.cells 30 p.cs) l
 refine CallA.eV 26 func3 ntmps3 results3 ?_
 refine sqdx ?_
 refine tqdz (cj3 @hw8 @hmod @hadd) ?_
 refine (easy13_ok (i := (iv : Int)) (s := 10) (by omega)).det' ?_
 rw [<- hp]
 refine tqdz (cj5 @hr @ez72 @hpw @vz72 @g0) ?_
 have hput : p.put (.p (.slice none 0 0)) = p := by rw [Par.put, <- hppa]
 have hnew := fun U : Tbl => (fnew_ok (T := U) (p := p) hpo (a := .p (.slice none 0 0)) (by rw [hput]; exact hpo) rfl rfl (fun _ => by rw [hppa]; exact clone_nil) (room := 100)).mono (K' := fun v T' es => v = .tu [.ptr (U.length + 4) 0, .p (.int .i64 0)] /\ T' = FT (U ++ List.replicate 5 .gone) (Fst.mk0 p U.length 100) /\ es = []) fun v T' es h => by rw [if_pos ⟨hpm, by omega, by omega⟩, hput] at h; exact h
 obtain ⟨T1, hT1⟩ : ∃ T1, T1 = T ++ [.cells 30 p.cs] := ⟨_, rfl⟩
 rw [<- hT1]
 refine (hnew T1).det' ?_
 have hl1 : T1.length = T.length + 1 := by rw [hT1]; simp
 have wf1 : ∀ q : Nat -> Bool, (∀ i, i < T1.length -> q i = false) -> T1.map (AObj.wo q) = T1 := fun q hq => by
  rw [hT1, List.map_append, (wf.wf q fun i hi => hq i (by omega)).1]
  simp only [List.map_cons, List.map_nil, AObj.wo, hr]
 obtain ⟨V0, hV0⟩ : ∃ V0, V0 = T1 ++ List.replicate 5 AObj.gone := ⟨_, rfl⟩
 obtain ⟨s0, hs0⟩ : ∃ s0, s0 = Fst.mk0 p T1.length 100 := ⟨_, rfl⟩
 have W0 : FW V0 s0 := by rw [hV0, hs0]; exact mk0_W wf1 hpo 100
 have G0 : s0.G := by rw [hs0]; exact mk0_G _ _ _
 have F0 : ∀ k, k <= T.length -> s0.Fr k := fun k hk => by rw [hs0]; exact mk0_Fr (.inl (by omega))
 have l0 : T.length < V0.length := by rw [hV0, List.length_append, hl1]; omega
 have P0 : V0[T.length]? = some (.cells 30 p.cs) := by rw [hV0, hT1, List.append_assoc]; exact gn0 T _ _
 have gP' : (FT V0 s0)[T.length]? = some (.cells 30 p.cs) := by rw [FT_fr (F0 _ (Nat.le_refl _)), P0]
 have hf0 : T1.length + 4 = s0.f := by rw [hs0]; rfl
 have b0 : s0.b = T.length + 4 := by rw [hs0]; show T1.length + 3 = _; omega
 have f0 : s0.f = T.length + 5 := by rw [<- hf0]; omega
 have v0 : V0.length = T.length + 6 := by rw [hV0, List.length_append, hl1]; rfl
 rw [<- hV0, <- hs0, hf0]
 have Z0 : WS V0 (fun k => k <= T.length) s0 V0 s0 := ⟨W0, G0, rfl, rfl, ⟨[], by simp⟩, F0, fun k hk => by omega⟩
 have wt0 := W0.r.t' W0.i W0.v
 refine tqdz (cj6 @vft @hr @gP' @wt0 @kallT @bb2) ?_
 refine CallA.mono (made_ok hpo (gs := gs) (Es.vs fun _ _ => rfl) hl) fun v T' es hK => ?_
 obtain ⟨hs, rfl, rfl, rfl, hso, hsl⟩ := hK
 have hsE : ∀ U, Es U 68 Hdr.cs (chA hs) hs := fun U => Es.vs fun x hx => Hdr.cs_len (hso x hx)
 have rF := Hdr.rules hpo.f
 have hvF := vz68.2 _ hpo.f
 refine tqdz (cj10 @vft @hr @gP' @wt0 @kallT @rF @rep1 @ez68 @vz68 @hvF) ?_
 refine SemA.pub V0.length (vft.2.1 _ _ _ _) rfl hdr_clean ?_
 have hfi : AV.vs p.first.cs 1 = chA [p.first] := by simp [chA]
 have n1 : (T.length = V0.length) = False := eq_false (by omega)
 have n2 : (s0.f = V0.length) = False := eq_false (by omega)
 simp -dsimp +decide only [vsk, v5q, ↓reduceIte, Nat.reduceSub, Nat.reduceAdd, Nat.reduceMul, Nat.reduceLT, Int.reduceAdd, Int.reduceSub, Int.reduceToNat, ci, vt, vft, wt0, hr, chA_wo, AV.pub, n1, n2]
 have tl0 : Tl V0.length s0.b [.gone, chB [[p.first]]] := ⟨fun q _ => by simp only [List.map_cons, List.map_nil, chA_wo]; rfl, by simp only [List.map_cons, List.map_nil, chA_wo]; rfl⟩
 have hch : AObj.buf 36 1 [AV.vs p.first.cs 1] = chB [[p.first]] := by rw [hfi]; rfl
 rw [hch, FT_tail W0.i]
 obtain ⟨V1, hV1⟩ : ∃ V1, V1 = V0 ++ [AObj.gone, chB [[p.first]]] := ⟨_, rfl⟩
 have J0 : BestJ V0 T.length s0 0 V1 s0 [[p.first]] 0 := by
  refine ⟨⟨by rw [hV1]; exact W0.app tl0, G0, rfl, rfl, ⟨_, hV1⟩, fun k hk => hk.elim (F0 k) fun e => W0.fr (by omega), fun k hk => by rw [hV1, List.length_append]; rcases hk with hk | hk <;> simp <;> omega⟩, ?_, by rw [hs0]; exact mk0_best p _ _, by rw [hs0]; rfl, by rw [hs0]; exact Nat.le_refl _, rfl, ?_⟩
  rotate_left
  . rw [hV1, List.map_append, hV0, List.map_append, gone_wo, wf1 _ fun i hi => by simp; omega]
    simp only [List.map_cons, List.map_nil, chA_wo]; rfl
  rw [hV1, List.getElem?_append_right (by omega), Nat.add_sub_cancel_left]; rfl
 rw [<- hV1]
 refine SemA.loopS (fun t : Nat × Tbl × Fst × List (List Hdr) × Nat => [(5, .ptr T.length 0), (6, .ptr s0.f 0), (8, chA hs), (9, .sl (V0.length + 1) 0 t.2.2.2.1.length), (10, wint (t.2.2.2.2 : Int)), (11, wint (t.1 : Int))]) (fun t => FT t.2.1 t.2.2.1) (fun t => t.1 <= hs.length /\ BestJ V0 T.length s0 t.1 t.2.1 t.2.2.1 t.2.2.2.1 t.2.2.2.2) (fun t => hs.length - t.1) (0, V1, s0, [[p.first]], 0) (EF T.length) 0
  (fun t : Nat × Tbl × Fst × List (List Hdr) × Nat => [(6, .ptr s0.f 0), (9, .sl (V0.length + 1) 0 t.2.2.2.1.length), (10, wint (t.2.2.2.2 : Int))]) (fun t => FT t.2.1 t.2.2.1) (fun t => t.1 <= hs.length /\ BestJ V0 T.length s0 t.1 t.2.1 t.2.2.1 t.2.2.2.1 t.2.2.2.2) ⟨Nat.zero_le _, J0⟩ ⟨rfl, rfl, rfl, rfl, rfl, rfl, rfl⟩ rfl (qe_rec1 (by simp)) ?_ ?_
 . rintro ⟨i, V, s, C, b⟩ g ⟨hi, hJ⟩
   dsimp only at hi hJ
   have hsr := Sl.rules (hsE (FT V s)).sl (by decide)
   refine SemA.o ?_
   refine tqdz @hsr ?_
   refine CondP.dec (fun hc => ?_) (fun hc => ?_)
   rotate_left
   . refine sqdz ?_
     exact ⟨(i, V, s, C, b), ⟨by dsimp only; omega, hJ⟩, SeeL.done ⟨rfl, ⟨rfl, rfl, rfl, rfl⟩, rfl, by simp⟩⟩
   obtain ⟨x, hx⟩ : ∃ x, hs[i]? = some x := ⟨hs[i]'(by omega), by simp⟩
   have hxo := hso x (List.mem_of_getElem? hx)
   have rx := Hdr.rules hxo
   have hvx := vz68.2 _ hxo
   have Z := hJ.w
   have hB := hJ.bi
   have hJln := hJ.ln
   have hJp := hJ.pp
   have hJk := hJ.kv
   have wtV := Z.w.r.t' Z.w.i Z.w.v
   have hld := (hsE (FT V s)).ld (P := prog) (t := 28) (by (simp -dsimp +decide only [vsk, v5q, ↓reduceIte, Nat.reduceSub, Nat.reduceAdd, Nat.reduceMul, Nat.reduceLT, Int.reduceAdd, Int.reduceSub, Int.reduceToNat, ci])) (by (simp -dsimp +decide only [vsk, v5q, ↓reduceIte, Nat.reduceSub, Nat.reduceAdd, Nat.reduceMul, Nat.reduceLT, Int.reduceAdd, Int.reduceSub, Int.reduceToNat, ci])) (by decide)
   refine tqdz (cj9 @vft @hsr @hld @hx @ez68 @vz68 @hvx @rx @wtV) ?_
   refine ⟨⟨by omega, by omega⟩, ?_⟩
   have tlx : Tl V.length s.b [.cells 28 x.cs] := ⟨fun q _ => by simp only [List.map_cons, List.map_nil, AObj.wo, rx], by simp only [List.map_cons, List.map_nil, AObj.wo, rx]⟩
   have Z2 := Z.tail tlx
   have xb : (V ++ [AObj.cells 28 x.cs])[V.length]? = some (.cells 28 x.cs) := gn0 V _ _
   have xf : s.Fr V.length := Z.w.fr (Nat.le_refl _)
   rw [FT_tail Z.w.i]
   obtain ⟨V2, hV2⟩ : ∃ V2, V2 = V ++ [AObj.cells 28 x.cs] := ⟨_, rfl⟩
   rw [<- hV2] at Z2 xb ⊢
   have lV2 : V2.length = V.length + 1 := by rw [hV2, List.length_append]; rfl
   have lV : V0.length + 1 < V.length := (List.getElem?_eq_some_iff.1 hJ.v).1
   have cv : V2[V0.length + 1]? = some (chB C) := by rw [hV2, List.getElem?_append_left lV]; exact hJ.v
   have gx : (FT V2 s)[V.length]? = some (.cells 28 x.cs) /\ ∀ l, (FT V2 s ++ l)[V.length]? = some (.cells 28 x.cs) := ⟨by rw [FT_fr xf]; exact xb, fun l => by rw [FT_app (by omega), FT_fr xf]; exact xb⟩
   have cf : s.Fr (V0.length + 1) := Z.fr _ (.inr rfl)
   have gc : (FT V2 s)[V0.length + 1]? = some (chB C) /\ ∀ l, (FT V2 s ++ l)[V0.length + 1]? = some (chB C) := ⟨by rw [FT_fr cf]; exact cv, fun l => by rw [FT_app (by omega), FT_fr cf]; exact cv⟩
   have wt2 := Z2.w.r.t' Z2.w.i Z2.w.v
   have hCo : ∀ c ∈ C, ∀ y ∈ c, y.Ok := fun c hc y hy => by
    obtain ⟨k, hk, rfl⟩ := List.getElem_of_mem hc
    have hk2 : k < s.bc.length := by rw [<- hB.l]; exact hk
    obtain ⟨r, h1, h2⟩ := hB.c k _ (List.getElem?_eq_getElem hk2)
    rw [List.getElem?_eq_getElem hk] at h2
    rw [Option.some.inj h2, hds, List.mem_reverse] at hy
    obtain ⟨j, _, rfl⟩ := List.mem_map.1 hy
    exact Fst.hd_ok Z.w.r j
   have hCl : ∀ c ∈ C, c.length <= s.bc.length := fun c hc => by
    obtain ⟨k, hk, rfl⟩ := List.getElem_of_mem hc
    have hk2 : k < s.bc.length := by rw [<- hB.l]; exact hk
    obtain ⟨r, h1, h2⟩ := hB.c k _ (List.getElem?_eq_getElem hk2)
    rw [List.getElem?_eq_getElem hk] at h2
    obtain ⟨r0, p1, p2⟩ := hB.g.p _ (List.getElem_mem hk2)
    have := Path.uniq h1 p1; subst this
    rw [Option.some.inj h2, hds_len]
    exact h1.len p2
   have csC : ∀ K : List AV -> Prop, csA (some (chB C)) K = K (C.map chA) := fun _ => rfl
   refine SemA.loopS (fun k : Nat => [(5, .ptr T.length 0), (6, .ptr s0.f 0), (8, chA hs), (9, .sl (V0.length + 1) 0 C.length), (10, wint (b : Int)), (11, wint (i : Int)), (12, .ptr V.length 0), (13, wint (posB (idsF s) x.prev k)), (14, wint (posB (idsF s) x.id k)), (15, wint (k : Int))]) (fun _ => FT V2 s) (fun k => k <= C.length) (fun k => C.length - k) 0 (EF T.length) 2
    (fun _ : Unit => [(5, .ptr T.length 0), (6, .ptr s0.f 0), (8, chA hs), (9, .sl (V0.length + 1) 0 C.length), (10, wint (b : Int)), (11, wint (i : Int)), (12, .ptr V.length 0), (13, wint (posB (idsF s) x.prev C.length)), (14, wint (posB (idsF s) x.id C.length))]) (fun _ => FT V2 s) (fun _ => True) (Nat.zero_le _) ⟨rfl, rfl, rfl, rfl, rfl, rfl, rfl, rfl, rfl, rfl, rfl⟩ rfl (qe_rec1 fun e he => he) ?_ ?_
   . rintro k g2 hk
     refine SemA.o ?_
     refine sqdz ?_
     refine CondP.dec (fun hc2 => ?_) (fun hc2 => ?_)
     rotate_left
     . have e : k = C.length := by omega
       subst e
       refine sqdz ?_
       exact ⟨(), SeeL.done ⟨rfl, (by (try (simp -dsimp +decide (disch := omega) only [vsk, v5q, ↓reduceIte, Nat.reduceSub, Nat.reduceAdd, Nat.reduceMul, Nat.reduceLT, Int.reduceAdd, Int.reduceSub, Int.reduceToNat, v4q])); first | done | (and_intros <;> first | with_reducible rfl | rfl) | rfl), rfl, by simp⟩⟩
     obtain ⟨c, hck⟩ : ∃ c, C[k]? = some c := ⟨C[k]'(by omega), by simp⟩
     obtain ⟨la, hla, hidk, hcn⟩ := hB.ids hck
     refine sqdz ?_
     refine SemA.draw (fun i => true) [(0, true), (1, true), (2, true), (3, true), (4, true), (5, true), (6, true), (7, true), (8, true), (9, true), (10, true), (11, true), (12, false), (13, false)] mixed (by kernel_rfl) ?_
     have hk0 : (0 <= (k : Int)) = True := eq_true (by omega)
     have hk1 : ((k : Int) < (C.length : Int)) = True := eq_true (by omega)
     have hCm : (C.map chA ≠ []) = True := eq_true (by intro e; rw [List.map_eq_nil_iff] at e; rw [e] at hck; simp at hck)
     have hCk : (C.map chA)[k]? = some (chA c) := by rw [List.getElem?_map, hck]; rfl
     have hco := hCo c (List.mem_of_getElem? hck)
     have hcl0 : 0 < c.length := List.length_pos_iff.2 hcn
     have hcE : ∀ U, Es U 68 Hdr.cs (chA c) c := fun U => Es.vs fun y hy => Hdr.cs_len (hco y hy)
     have hsc := Sl.rules (hcE (FT V2 s)).sl (by decide)
     have hlc := (hcE (FT V2 s)).ld (P := prog) (t := 28) (by (simp -dsimp +decide only [vsk, v5q, ↓reduceIte, Nat.reduceSub, Nat.reduceAdd, Nat.reduceMul, Nat.reduceLT, Int.reduceAdd, Int.reduceSub, Int.reduceToNat, ci])) (by (simp -dsimp +decide only [vsk, v5q, ↓reduceIte, Nat.reduceSub, Nat.reduceAdd, Nat.reduceMul, Nat.reduceLT, Int.reduceAdd, Int.reduceSub, Int.reduceToNat, ci])) (by decide)
     have hlx : c[c.length - 1]? = some la := by rw [<- List.getLast?_eq_getElem?, hla]
     have hsub : (c.length : Int) - 1 = ((c.length - 1 : Nat) : Int) := by omega
     have hcl := hCl c (List.mem_of_getElem? hck)
     have hwr : IntKind.i64.wrap ((c.length - 1 : Nat) : Int) = ((c.length - 1 : Nat) : Int) := IntWalk.i64_in _ (by omega)
     have hlo := hco la (List.mem_of_getElem? hlx)
     have rl := Hdr.rules hlo
     have hvl := vz68.2 _ hlo
     refine tqdz (cj19 @vft @gc @csC @kallT @hk0 @hk1 @hCm @hCk @true_and @hsc @hsub @hwr @hlc @hlx @ez68 @vz68 @hvl @rl @Int.toNat_natCast) ?_
     refine ⟨⟨by omega, by omega⟩, ?_⟩
     refine SemA.draw (fun i => true) [(0, true), (2, true), (3, true), (1, false), (4, true)] mixed (by kernel_rfl) ?_
     refine tqdz (cj5 @vft @gx @rx @rl @kallT) ?_
     refine (rid_ok hlo).det' ?_
     have e1 := eqh la.id_len hxo.p
     refine tqdz (cj6 @vft @gx @rx @rl @kallT @e1) ?_
     have e2 := eqh la.id_len x.id_len
     have hpk : ∀ id, posB (idsF s) id (k + 1) = if la.id = id then (k : Int) else posB (idsF s) id k := fun id => by rw [posB, hidk]; simp only [Option.some.injEq]
     have hwk : IntKind.i64.wrap ((k : Int) + 1) = ((k + 1 : Nat) : Int) := IntWalk.i64_in _ (by have := hB.l; omega)
     have d1 : (V2.length <= T.length) = False /\ (V2.length <= s0.f) = False /\ (V2.length <= V0.length + 1) = False /\ (V2.length <= V.length) = False := ⟨eq_false (by omega), eq_false (by omega), eq_false (by omega), eq_false (by omega)⟩
     refine CondP.dec (fun c3 => ?_) (fun c3 => ?_)
     all_goals
      refine sqdz ?_
      refine SemA.draw (fun i => true) [(0, true), (2, true), (1, false), (3, false), (4, true)] mixed (by kernel_rfl) ?_
      refine tqdz (cj5 @vft @gx @rx @rl @kallT) ?_
      refine (rid_ok hlo).det' ?_
      refine tqdz (cj5 @vft @gx @rx @rl @kallT) ?_
      refine (rid_ok hxo).det' ?_
      refine tqdz (cj6 @vft @gx @rx @rl @kallT @e2) ?_
      refine CondP.dec (fun c4 => ?_) (fun c4 => ?_)
      all_goals
       refine tqdz @hwk ?_
       refine ⟨k + 1, ⟨by omega, by omega⟩, SeeL.cut V2.length (by omega) ?_⟩
       refine tqdx (cj5 @vt @vft @wt2 @chA_wo @d1) ?_
       refine SeeL.done ⟨rfl, ?_, rfl, qe_rec1 fun e he => he⟩
       rw [hpk, hpk]
       first | rw [if_pos c3] | rw [if_neg c3]
       first | rw [if_pos c4] | rw [if_neg c4]
       exact (by (try (simp -dsimp +decide (disch := omega) only [vsk, v5q, ↓reduceIte, Nat.reduceSub, Nat.reduceAdd, Nat.reduceMul, Nat.reduceLT, Int.reduceAdd, Int.reduceSub, Int.reduceToNat, v4q])); first | done | (and_intros <;> first | with_reducible rfl | rfl) | rfl)
   . rintro _ g2 tmp2 -
     have hJr := hJ.rm
     have ha := fadd_ok Z2.w Z2.g hxo (by omega) (by omega)
     rw [Z2.f] at ha
     refine tqdz (cj2 @gx @rx) ?_
     refine CallA.mono ha fun v T' es hK => ?_
     obtain ⟨s3, ht, gone, e, l3, a3, R3, G3, I3, W3, ⟨m3, hm3⟩, hb3, hf3, rfl, rfl, rfl⟩ := hK
     have Z3 := Z2.add R3 G3 W3 hb3 hf3
     obtain ⟨rfl, hcase⟩ := best_step hB R3 G3 hJr (by omega)
     have y3 := I3.wo
     have zb := Z.b
     obtain ⟨V3, hV3⟩ : ∃ V3, V3 = V2 ++ l3 := ⟨_, rfl⟩
     rw [<- hV3] at Z3 ⊢
     have lV3 : V2.length <= V3.length := by rw [hV3, List.length_append]; omega
     have kv3 : V3.map (AObj.wo (· == V0.length + 1)) = V3 := by
      rw [hV3, hV2, hm3, List.map_append, List.map_append, hJk, gone_wo]
      simp only [List.map_cons, List.map_nil, AObj.wo, rx]
     obtain ⟨-, -, -, hr3, hp3, -⟩ := R3.dom
     have hlen3 := R3.len
     have sp3 : s3.p = p := by rw [hp3, hJp, hs0]; rfl
     have bqV : (V.length == s0.b) = false /\ (V0.length + 1 == s0.b) = false /\ (T.length == s0.b) = false /\ (s0.f == s0.b) = false := ⟨by simp; omega, by simp; omega, by simp; omega, by simp; omega⟩
     have hsg := Sl.rules (I3.es (FT V3 s3)).sl (by decide)
     have hg0 : ([] : List (List UInt8)).length = 0 := rfl
     simp -dsimp +decide (disch := omega) only [vsk, v5q, ↓reduceIte, Nat.reduceSub, Nat.reduceAdd, Nat.reduceMul, Nat.reduceLT, Int.reduceAdd, Int.reduceSub, Int.reduceToNat, v2q, vft, FE_slots, bqV, AV.wo, y3, chA_wo, zb, List.map_cons, List.map_nil, hsg, hg0, bb2]
     have cf3 : s3.Fr (V0.length + 1) := Z3.fr _ (.inr rfl)
     have cv3 : V3[V0.length + 1]? = some (chB C) := by rw [hV3, List.getElem?_append_left (by omega)]; exact cv
     have gc3 : (FT V3 s3)[V0.length + 1]? = some (chB C) /\ ∀ l, (FT V3 s3 ++ l)[V0.length + 1]? = some (chB C) := ⟨by rw [FT_fr cf3]; exact cv3, fun l => by rw [FT_app (by omega), FT_fr cf3]; exact cv3⟩
     have wt3 := Z3.w.r.t' Z3.w.i Z3.w.v
     have hEE : ∀ e ∈ recE T.length (FE V2.length s0.b) (EF T.length), e ∈ EF T.length := qe_rec (by omega) fun e he => he
     rcases hcase with ⟨k, c, k1, k2, he, k3, hs3⟩ | ⟨kn, hcase⟩
     . have hs3' : s = s3 := hs3.symm
       subst hs3'
       subst he
       have hkC := (List.getElem?_eq_some_iff.1 k2).1
       rw [posB_at hB.nodup k1 C.length hkC]
       have hk0 : (0 <= (k : Int)) = True := eq_true (by omega)
       have hk1 : ((k : Int) < (C.length : Int)) = True := eq_true (by omega)
       have hCm : (C.map chA ≠ []) = True := eq_true (by intro e; rw [List.map_eq_nil_iff] at e; rw [e] at k2; simp at k2)
       have hCk : (C.map chA)[k]? = some (chA c) := by rw [List.getElem?_map, k2]; rfl
       have hkz : 0 + k * 1 = k := by omega
       have hcl := hCl c (List.mem_of_getElem? k2)
       have hcE3 : Es (FT V3 s) 68 Hdr.cs (chA c) c := Es.vs fun y hy => Hdr.cs_len (hCo c (List.mem_of_getElem? k2) y hy)
       have hsc := Sl.rules hcE3.sl (by decide)
       have hw1 : IntKind.i64.wrap ((c.length : Int) - 1) = (ht : Int) := by rw [IntWalk.i64_in _ (by omega)]; omega
       have hw2 : (c.length : Int) - 1 = (ht : Int) := by omega
       refine tqdz (cj15 @vft @gc3 @csC @hk0 @hk1 @hCm @hCk @hkz @hsc @hw1 @hw2 @Int.toNat_natCast @bb2 @true_and @and_true) ?_
       have hwi : IntKind.i64.wrap ((i : Int) + 1) = ((i + 1 : Nat) : Int) := IntWalk.i64_in _ (by omega)
       refine ⟨(i + 1, V3, s, C, b), ⟨⟨by dsimp only; omega, Z3, cv3, hB, hJr, by show s.bc.length <= i + 1 + 1; omega, hJp, kv3⟩, by dsimp only; omega⟩, SeeL.done ⟨rfl, ?_, rfl, hEE⟩⟩
       exact (by (try (simp -dsimp +decide (disch := omega) only [vsk, v5q, ↓reduceIte, Nat.reduceSub, Nat.reduceAdd, Nat.reduceMul, Nat.reduceLT, Int.reduceAdd, Int.reduceSub, Int.reduceToNat, v4q])); first | done | (and_intros <;> first | with_reducible rfl | rfl) | rfl)
     . rw [posB_none kn]
       have hwi : IntKind.i64.wrap ((i : Int) + 1) = ((i + 1 : Nat) : Int) := IntWalk.i64_in _ (by omega)
       have gP3 : (FT V3 s3)[T.length]? = some (.cells 30 p.cs) /\ ∀ l, (FT V3 s3 ++ l)[T.length]? = some (.cells 30 p.cs) := by
        have e0 : V0[T.length]? = some (.cells 30 p.cs) := P0
        exact Z3.at (.inl (Nat.le_refl _)) e0
       have fx3 : s3.Fr V.length := xf.add (by omega) R3
       have gx3 : (FT V3 s3)[V.length]? = some (.cells 28 x.cs) /\ ∀ l, (FT V3 s3 ++ l)[V.length]? = some (.cells 28 x.cs) := ⟨by rw [FT_fr fx3, hV3, List.getElem?_append_left (by omega)]; exact xb, fun l => by rw [FT_app (by omega), FT_fr fx3, hV3, List.getElem?_append_left (by omega)]; exact xb⟩
       have m1 : ((0 : Int) <= -1) = False := eq_false (by decide)
       refine tqdz (cj2 @m1 @bb2) ?_
       rcases hcase with ⟨pn, he, hh, hs3⟩ | ⟨k, c, k1, k2, hcase⟩
       . have hs3' := hs3.symm
         subst hs3'
         subst he
         subst hh
         rw [posB_none pn]
         refine sqdz ?_
         refine SemA.draw (fun i => true) [(0, true), (1, true), (2, true), (3, true), (4, true), (5, true), (6, true), (7, true), (8, true), (9, true), (10, false), (11, true), (12, true), (13, true)] mixed (by kernel_rfl) ?_
         refine tqdz (cj2 @m1 @bb2) ?_
         refine ⟨(i + 1, V3, s, C, b), ⟨⟨by dsimp only; omega, Z3, cv3, hB, hJr, by show s.bc.length <= i + 1 + 1; omega, hJp, kv3⟩, by dsimp only; omega⟩, SeeL.done ⟨rfl, ?_, rfl, hEE⟩⟩
         exact (by (try (simp -dsimp +decide (disch := omega) only [vsk, v5q, ↓reduceIte, Nat.reduceSub, Nat.reduceAdd, Nat.reduceMul, Nat.reduceLT, Int.reduceAdd, Int.reduceSub, Int.reduceToNat, v4q])); first | done | (and_intros <;> first | with_reducible rfl | rfl) | rfl)
       . have hkC := (List.getElem?_eq_some_iff.1 k2).1
         rw [posB_at hB.nodup k1 C.length hkC]
         have hk0 : (0 <= (k : Int)) = True := eq_true (by omega)
         have hk1 : ((k : Int) < (C.length : Int)) = True := eq_true (by omega)
         have hCm : (C.map chA ≠ []) = True := eq_true (by intro e; rw [List.map_eq_nil_iff] at e; rw [e] at k2; simp at k2)
         have hCk : (C.map chA)[k]? = some (chA c) := by rw [List.getElem?_map, k2]; rfl
         have hkz : 0 + k * 1 = k := by omega
         have hmx : max (k : Int) 0 = (k : Int) := by omega
         have hcl := hCl c (List.mem_of_getElem? k2)
         have hco := hCo c (List.mem_of_getElem? k2)
         have hcE3 : ∀ U, Es U 68 Hdr.cs (chA c) c := fun U => Es.vs fun y hy => Hdr.cs_len (hco y hy)
         have hsc := Sl.rules (hcE3 (FT V3 s3)).sl (by decide)
         refine SemA.draw (fun i => true) [(0, true), (1, true), (2, true), (3, true), (4, true), (5, true), (6, true), (7, true), (8, true), (9, true), (10, false), (11, true), (12, true), (13, true)] mixed (by kernel_rfl) ?_
         refine tqdz (cj19 @vft @hk0 @bb2 @gP3 @gx3 @gc3 @csC @hk1 @hCm @hCk @hkz @hmx @vmm @hr @rx @Int.toNat_natCast @kallT @true_and @and_true) ?_
         rw [show s.p = p by rw [<- hp3]; exact sp3] at hcase
         refine (right13_ok hpo (hcE3 _) hco hxo (by omega)).det' ?_
         rcases hcase with ⟨r0, he, hh, hs3⟩ | ⟨r0, he, hh, cb, hcb, hB3⟩
         . have hs3' := hs3.symm
           subst hs3'
           subst he
           subst hh
           have r1 : (rightE p c x = 0) = False := eq_false r0
           refine tqdz (cj2 @r1 @bb2) ?_
           refine ⟨(i + 1, V3, s, C, b), ⟨⟨by dsimp only; omega, Z3, cv3, hB, hJr, by show s.bc.length <= i + 1 + 1; omega, hJp, kv3⟩, by dsimp only; omega⟩, SeeL.done ⟨rfl, ?_, rfl, hEE⟩⟩
           exact (by (try (simp -dsimp +decide (disch := omega) only [vsk, v5q, ↓reduceIte, Nat.reduceSub, Nat.reduceAdd, Nat.reduceMul, Nat.reduceLT, Int.reduceAdd, Int.reduceSub, Int.reduceToNat, v4q])); first | done | (and_intros <;> first | with_reducible rfl | rfl) | rfl)
         . subst he
           subst hh
           have bq3 : (V.length == V3.length) = false /\ (V0.length + 1 == V3.length) = false /\ (T.length == V3.length) = false /\ (s0.f == V3.length) = false := ⟨by simp; omega, by simp; omega, by simp; omega, by simp; omega⟩
           have bq1 : (V.length == V0.length + 1) = false /\ (T.length == V0.length + 1) = false /\ (s0.f == V0.length + 1) = false /\ (V3.length == V0.length + 1) = false /\ (V3.length == V3.length) = true := ⟨by simp; omega, by simp; omega, by simp; omega, by simp; omega, by simp⟩
           have hfc : (c.flatMap Hdr.cs).length = c.length * 68 := flat_len fun y hy => Hdr.cs_len (hco y hy)
           have hoc : ones (c.flatMap Hdr.cs) = true := hdrs_ones hco
           have hsc2 : ∀ (U : Tbl) (K : List AV -> Nat -> Prop), srcA 68 (chA c) U K = (K (c.flatMap Hdr.cs) c.length) := fun U K => by
            show (_ /\ _) = _; rw [hfc]; simp
           have hnc : c.flatMap Hdr.cs ++ x.cs = (c ++ [x]).flatMap Hdr.cs := by simp
           have hcR : ∀ y ∈ c ++ [x], y.Ok := fun y hy => by
            rcases List.mem_append.1 hy with hy | hy
            . exact hco y hy
            . rw [List.mem_singleton.1 hy]; exact hxo
           have hwc := fun q => hdrs_wo q hco
           have hwR := fun q => hdrs_wo q hcR
           have hCl2 : (C.map chA).length = C.length * 1 := by rw [List.length_map, Nat.mul_one]
           have hCL := hB.l
           have b2 : (c.length * 80 <= 140737488355328 /\ c.length <= 140737488355328) = True := eq_true ⟨by omega, by omega⟩
           have b3 : ((c.length + 1) * 80 <= 140737488355328 /\ c.length + 1 <= 140737488355328) = True := eq_true ⟨by omega, by omega⟩
           have b4 : ((C.length + 1) * 24 <= 140737488355328 /\ C.length + 1 <= 140737488355328) = True := eq_true ⟨by omega, by omega⟩
           have sF : ∀ o l, (FT V3 s3 ++ l).set (V0.length + 1) o = FT (V3.set (V0.length + 1) o) s3 ++ l := fun o l => by
            rw [List.set_append_left _ _ (by rw [FT_len]; omega), FT_setFr cf3]
           have hcB : chB C = .buf 36 1 (C.map chA) := rfl
           have hwV := Z3.wo1 cf3 kv3
           simp -dsimp +decide (disch := omega) only [vsk, v5q, ↓reduceIte, Nat.reduceSub, Nat.reduceAdd, Nat.reduceMul, Nat.reduceLT, Int.reduceAdd, Int.reduceSub, Int.reduceToNat, v2q, vft, r0, bb2, gc3, csC, hcB, hwV, hk0, hk1, hCm, hCk, hkz, hsc, Int.toNat_natCast, true_and, and_true, gx3, rx, hoc, b2, bq3, hfc, hsc2, hnc, hwc, hwR, hCl2, b3, b4, rep1, ez68, vz68, hvx, y3, chA_wo, wt3, bq1, sF]
           obtain ⟨V5, hV5⟩ : ∃ V5, V5 = V3.set (V0.length + 1) (chB (C ++ [c ++ [x]])) := ⟨_, rfl⟩
           have lV5 : V5.length = V3.length := by rw [hV5, List.length_set]
           have hgo : ∀ o a l, (FT (V3.set (V0.length + 1) o) s3 ++ a :: l)[V3.length]? = some a := fun o a l => by
            have := vft.2.1 (V3.set (V0.length + 1) o) s3 a l
            rwa [List.length_set] at this
           refine SemA.pub V3.length (hgo _ _ _) rfl (hdrs_clean _) ?_
           have hp1 : AV.pub V3.length (List.flatMap Hdr.cs (c ++ [x])) (.sl V3.length 0 (c.length + 1)) = chA (c ++ [x]) := by
            have e : AV.pub V3.length (List.flatMap Hdr.cs (c ++ [x])) (.sl V3.length 0 (c.length + 1)) = .vs (List.flatMap Hdr.cs (c ++ [x])) (c.length + 1) := by (simp -dsimp +decide only [vsk, v5q, ↓reduceIte, Nat.reduceSub, Nat.reduceAdd, Nat.reduceMul, Nat.reduceLT, Int.reduceAdd, Int.reduceSub, Int.reduceToNat, ci])
            rw [e, chA, List.length_append, List.length_singleton]
           have hCN : List.map (AV.pub V3.length (List.flatMap Hdr.cs (c ++ [x]))) (List.map chA C ++ [AV.sl V3.length 0 (c.length + 1)]) = (C ++ [c ++ [x]]).map chA := by
            rw [List.map_append, chA_wo.2.2.2.2.2, List.map_append, List.map_cons, List.map_nil, hp1]; rfl
           have hpF : (FT (V3.set (V0.length + 1) (.buf 36 1 (C.map chA ++ [AV.sl V3.length 0 (c.length + 1)]))) s3).map (AObj.pub V3.length (List.flatMap Hdr.cs (c ++ [x]))) = FT V5 s3 := by
            rw [<- FT_setFr cf3, List.map_set, wt3.2.2.2.2.2 _, hV5, <- FT_setFr cf3 (chB _)]
            congr 1
            show AObj.buf _ _ _ = _
            rw [hCN]; rfl
           have pe3 : (V.length = V3.length) = False /\ (V0.length + 1 = V3.length) = False /\ (T.length = V3.length) = False /\ (s0.f = V3.length) = False := ⟨eq_false (by omega), eq_false (by omega), eq_false (by omega), eq_false (by omega)⟩
           have gs5 : ∀ o a l, (FT V5 s3 ++ a :: l).set V3.length o = FT V5 s3 ++ o :: l := fun o a l => by
            rw [List.set_append_right _ _ (by rw [FT_len]; omega), FT_len, lV5, Nat.sub_self]; rfl
           simp -dsimp +decide only [vsk, v5q, ↓reduceIte, Nat.reduceSub, Nat.reduceAdd, Nat.reduceMul, Nat.reduceLT, Int.reduceAdd, Int.reduceSub, Int.reduceToNat, ci, vt, vft, hpF, pe3, chA_wo, AV.pub, List.map_append, gs5, hwR, hdrs_pub]
           have Z5 : WS V0 (fun k => k <= T.length ∨ k = V0.length + 1) s0 V5 s3 := by
            rw [hV5]; exact Z3.set (by omega) fun q => by rw [chA_wo.2.2.1]
           have wt5 := Z5.w.r.t' Z5.w.i Z5.w.v
           have d5 : (V5.length <= T.length) = False /\ (V5.length <= s0.f) = False /\ (V5.length <= V0.length + 1) = False /\ (V5.length <= V.length) = False := ⟨eq_false (by omega), eq_false (by omega), eq_false (by omega), eq_false (by omega)⟩
           refine SemA.cut V5.length (by omega) ?_
           refine tqdx (cj5 @vt @vft @wt5 @chA_wo @d5) ?_
           have cv5 : V5[V0.length + 1]? = some (chB (C ++ [c ++ [x]])) := by rw [hV5, List.getElem?_set_self (by omega)]
           have gc5 : (FT V5 s3)[V0.length + 1]? = some (chB (C ++ [c ++ [x]])) /\ ∀ l, (FT V5 s3 ++ l)[V0.length + 1]? = some (chB (C ++ [c ++ [x]])) := ⟨by rw [FT_fr cf3]; exact cv5, fun l => by rw [FT_app (by omega), FT_fr cf3]; exact cv5⟩
           have csC5 : ∀ K : List AV -> Prop, csA (some (chB (C ++ [c ++ [x]]))) K = K ((C ++ [c ++ [x]]).map chA) := fun _ => rfl
           have hbC := (List.getElem?_eq_some_iff.1 hcb).1
           have hCb : ((C ++ [c ++ [x]]).map chA)[b]? = some (chA cb) := by rw [List.getElem?_map, List.getElem?_append_left hbC, hcb]; rfl
           have hCc : ((C ++ [c ++ [x]]).map chA)[C.length]? = some (chA (c ++ [x])) := by rw [List.getElem?_map, List.getElem?_append_right (Nat.le_refl _), Nat.sub_self]; rfl
           have hb0 : (0 <= (b : Int)) = True := eq_true (by omega)
           have hb1 : ((b : Int) < (C.length : Int) + 1) = True := eq_true (by omega)
           have hb2 : ((b : Int) < ((C.length + 1 : Nat) : Int)) = True := eq_true (by omega)
           have hbz : 0 + b * 1 = b := by omega
           have hl1' : ((C.length + 1 : Nat) : Int) - 1 = (C.length : Int) := by omega
           have hl2' : IntKind.i64.wrap (C.length : Int) = (C.length : Int) := IntWalk.i64_in _ (by omega)
           have hl0 : (0 <= (C.length : Int)) = True := eq_true (by omega)
           have hl3 : ((C.length : Int) < ((C.length + 1 : Nat) : Int)) = True := eq_true (by omega)
           have hlz : 0 + C.length * 1 = C.length := by omega
           have hCm5 : ((C ++ [c ++ [x]]).map chA ≠ []) = True := eq_true (by simp)
           refine SemA.draw (fun i => true) [(0, true), (1, true), (2, true), (3, true), (5, true), (6, true), (7, true), (8, true), (9, true), (10, true), (4, false), (11, false), (12, false)] mixed (by kernel_rfl) ?_
           refine tqdz (cj17 @gc5 @csC5 @hCb @hCc @hb0 @hb1 @hb2 @hbz @hl1' @hl2' @hl0 @hl3 @hlz @hCm5 @Int.toNat_natCast @true_and @and_true) ?_
           have hcbo := hCo cb (List.mem_of_getElem? hcb)
           have hcbl := hCl cb (List.mem_of_getElem? hcb)
           refine (sum14_ok (Es.vs fun y hy => Hdr.cs_len (hcbo y hy)) hcbo (by omega)).det' ?_
           refine tqdz @gc5 ?_
           refine (sum14_ok (Es.vs fun y hy => Hdr.cs_len (hcR y hy)) hcR (by rw [List.length_append, List.length_singleton]; omega)).det' ?_
           refine tqdz @gc5 ?_
           refine (less02_ok (sumH_lt _) (sumH_lt _)).det' ?_
           refine tqdz @gc5 ?_
           have r1 : ∀ j t E, T.length <= j -> rec1 T.length j t E = E := fun j t E h => by unfold rec1; rw [if_neg (by omega)]
           have hE5 : ∀ e ∈ rec1 T.length V3.length false (rec1 T.length (V0.length + 1) true (rec1 T.length V3.length true (rec1 T.length V3.length true (recE T.length (FE V2.length s0.b) (EF T.length))))), e ∈ EF T.length := by
            rw [r1 _ _ _ (by omega), r1 _ _ _ (by omega), r1 _ _ _ (by omega), r1 _ _ _ (by omega)]; exact hEE
           have lC5 : (C ++ [c ++ [x]]).length = C.length + 1 := by simp
           have kv5 : V5.map (AObj.wo (· == V0.length + 1)) = V5 := by rw [hV5, List.map_set, kv3, chA_wo.2.2.1]
           refine CondP.dec (fun cw => ?_) (fun cw => ?_)
           . refine tqdz (cj3 @hl1' @hl2' @hwi) ?_
             rw [if_pos cw] at hB3
             refine ⟨(i + 1, V5, s3, C ++ [c ++ [x]], C.length), ⟨⟨by dsimp only; omega, Z5, cv5, hB3, by rw [hr3]; exact hJr, by show s3.bc.length <= i + 1 + 1; omega, by rw [hp3]; exact hJp, kv5⟩, by dsimp only; omega⟩, SeeL.done ⟨rfl, ?_, rfl, hE5⟩⟩
             dsimp only
             rw [lC5]
             exact (by (try (simp -dsimp +decide (disch := omega) only [vsk, v5q, ↓reduceIte, Nat.reduceSub, Nat.reduceAdd, Nat.reduceMul, Nat.reduceLT, Int.reduceAdd, Int.reduceSub, Int.reduceToNat, v4q])); first | done | (and_intros <;> first | with_reducible rfl | rfl) | rfl)
           . refine tqdz (cj3 @hl1' @hl2' @hwi) ?_
             rw [if_neg cw] at hB3
             refine ⟨(i + 1, V5, s3, C ++ [c ++ [x]], b), ⟨⟨by dsimp only; omega, Z5, cv5, hB3, by rw [hr3]; exact hJr, by show s3.bc.length <= i + 1 + 1; omega, by rw [hp3]; exact hJp, kv5⟩, by dsimp only; omega⟩, SeeL.done ⟨rfl, ?_, rfl, hE5⟩⟩
             dsimp only
             rw [lC5]
             exact (by (try (simp -dsimp +decide (disch := omega) only [vsk, v5q, ↓reduceIte, Nat.reduceSub, Nat.reduceAdd, Nat.reduceMul, Nat.reduceLT, Int.reduceAdd, Int.reduceSub, Int.reduceToNat, v4q])); first | done | (and_intros <;> first | with_reducible rfl | rfl) | rfl)
 . rintro ⟨i, V, s, C, b⟩ g tmp ⟨hi, hJ⟩
   dsimp only at hi hJ
   have Z := hJ.w
   have hB := hJ.bi
   obtain ⟨r, hpa, hCb⟩ := hB.c b _ hB.b
   obtain ⟨z, hz1, hz2, -⟩ := hpa.head
   have hrl : r.length <= 50 := by
    obtain ⟨r0, p1, p2⟩ := hB.g.p _ (List.mem_of_getElem? hB.b)
    have e := Path.uniq hpa p1
    subst e
    have h1 := hpa.len p2
    have h2 := hJ.ln
    rw [List.length_cons] at h1
    omega
   obtain ⟨G, hG⟩ : ∃ G, G = hds s (s.top :: r) := ⟨_, rfl⟩
   have hGl : G.length = r.length + 1 := by rw [hG, hds_len]; rfl
   have hGo : ∀ y ∈ G, y.Ok := fun y hy => by
    rw [hG, hds, List.mem_reverse] at hy
    obtain ⟨j, _, rfl⟩ := List.mem_map.1 hy
    exact Fst.hd_ok Z.w.r j
   have hch := fchain_ok Z.w hpa (by omega)
   rw [<- hG, <- hGl, Z.f] at hch
   rw [<- hG] at hCb
   have hGE : ∀ U, Es U 68 Hdr.cs (chA G) G := fun U => Es.vs fun y hy => Hdr.cs_len (hGo y hy)
   have hsG := Sl.rules (hGE (FT V s)).sl (by decide)
   have cf : s.Fr (V0.length + 1) := Z.fr _ (.inr rfl)
   have lV : V0.length + 1 < V.length := (List.getElem?_eq_some_iff.1 hJ.v).1
   have gc : (FT V s)[V0.length + 1]? = some (chB C) /\ ∀ l, (FT V s ++ l)[V0.length + 1]? = some (chB C) := ⟨by rw [FT_fr cf]; exact hJ.v, fun l => by rw [FT_app (by omega), FT_fr cf]; exact hJ.v⟩
   have csC : ∀ K : List AV -> Prop, csA (some (chB C)) K = K (C.map chA) := fun _ => rfl
   have hbC := (List.getElem?_eq_some_iff.1 hCb).1
   have hb0 : (0 <= (b : Int)) = True := eq_true (by omega)
   have hb1 : ((b : Int) < (C.length : Int)) = True := eq_true (by omega)
   have hCm : (C.map chA ≠ []) = True := eq_true (by intro e; rw [List.map_eq_nil_iff] at e; rw [e] at hCb; simp at hCb)
   have hCk : (C.map chA)[b]? = some (chA G) := by rw [List.getElem?_map, hCb]; rfl
   have hbz : 0 + b * 1 = b := by omega
   refine sqdz ?_
   refine hch.det' ?_
   rw [show AV.vs (G.flatMap Hdr.cs) G.length = chA G from rfl]
   refine tqdz (cj12 @hsG @gc @csC @hb0 @hb1 @hCm @hCk @hbz @Int.toNat_natCast @bb2 @true_and @and_true) ?_
   have lb0 : G ≠ [] := fun e => by rw [e] at hGl; simp at hGl
   refine SemA.loopS (fun k : Nat => [(6, .ptr s0.f 0), (9, .sl (V0.length + 1) 0 C.length), (10, wint (b : Int)), (22, chA G), (23, wint (k : Int))]) (fun _ => FT V s) (fun k => k <= G.length) (fun k => G.length - k) 0 (EF T.length) 4
    (fun _ : Unit => [(6, .ptr s0.f 0), (22, chA G)]) (fun _ => FT V s) (fun _ => True) (Nat.zero_le _) ⟨rfl, rfl, rfl, rfl, rfl, rfl⟩ rfl (fun e he => he) ?_ ?_
   . rintro k g2 hk
     refine SemA.o ?_
     refine tqdz @hsG ?_
     refine CondP.dec (fun hc2 => ?_) (fun hc2 => ?_)
     rotate_left
     . refine sqdz ?_
       exact ⟨(), SeeL.done ⟨rfl, ⟨rfl, rfl, rfl⟩, rfl, fun e he => he⟩⟩
     obtain ⟨y, hy⟩ : ∃ y, G[k]? = some y := ⟨G[k]'(by omega), by simp⟩
     have hyo := hGo y (List.mem_of_getElem? hy)
     have hlG := (hGE (FT V s)).ld (P := prog) (t := 28) (by (simp -dsimp +decide only [vsk, v5q, ↓reduceIte, Nat.reduceSub, Nat.reduceAdd, Nat.reduceMul, Nat.reduceLT, Int.reduceAdd, Int.reduceSub, Int.reduceToNat, ci])) (by (simp -dsimp +decide only [vsk, v5q, ↓reduceIte, Nat.reduceSub, Nat.reduceAdd, Nat.reduceMul, Nat.reduceLT, Int.reduceAdd, Int.reduceSub, Int.reduceToNat, ci])) (by decide)
     have hwk : IntKind.i64.wrap ((k : Int) + 1) = ((k + 1 : Nat) : Int) := IntWalk.i64_in _ (by omega)
     have hk0 : (0 <= (k : Int)) = True := eq_true (by omega)
     have hk1 : ((k : Int) < (G.length : Int)) = True := eq_true (by omega)
     refine sqdz ?_
     refine SemA.draw (fun i => true) [(0, true), (1, true), (2, true), (3, true), (4, true), (5, true), (6, true), (7, true), (8, true), (9, true), (10, true), (11, true)] mixed (by kernel_rfl) ?_
     simp -dsimp +decide (disch := omega) only [vsk, v5q, ↓reduceIte, Nat.reduceSub, Nat.reduceAdd, Nat.reduceMul, Nat.reduceLT, Int.reduceAdd, Int.reduceSub, Int.reduceToNat, v2q, hsG, hlG, hy, gc, csC, hb0, hb1, hCm, hCk, hbz, hk0, hk1, Int.toNat_natCast, kallT, nehd hyo, hwk, bb2, true_and, and_true]
     exact ⟨k + 1, ⟨by omega, by omega⟩, SeeL.done ⟨rfl, (by (try (simp -dsimp +decide (disch := omega) only [vsk, v5q, ↓reduceIte, Nat.reduceSub, Nat.reduceAdd, Nat.reduceMul, Nat.reduceLT, Int.reduceAdd, Int.reduceSub, Int.reduceToNat, v4q])); first | done | (and_intros <;> first | with_reducible rfl | rfl) | rfl), rfl, fun e he => he⟩⟩
   . rintro _ g2 tmp2 -
     have hbe := best_ok Z.w hz1
     rw [Z.f] at hbe
     have hidl := z.h.id_len
     refine sqdz ?_
     refine hbe.det' ?_
     have tlz : Tl V.length s.b [.cells 26 (z.h.id.map by8)] := ⟨fun q _ => by simp only [List.map_cons, List.map_nil, AObj.wo, wb8], by simp only [List.map_cons, List.map_nil, AObj.wo, wb8]⟩
     have Z6 := Z.tail tlz
     have xb6 : (V ++ [AObj.cells 26 (z.h.id.map by8)])[V.length]? = some (.cells 26 (z.h.id.map by8)) := gn0 V _ _
     have xf6 : s.Fr V.length := Z.w.fr (Nat.le_refl _)
     have hzr := Nd.rules (Z.w.r.h _ _ hz1)
     have wtV := Z.w.r.t' Z.w.i Z.w.v
     refine tqdz (cj5 @vft @ez32 @vh @hidl @wtV) ?_
     rw [FT_tail Z.w.i]
     obtain ⟨V6, hV6⟩ : ∃ V6, V6 = V ++ [AObj.cells 26 (z.h.id.map by8)] := ⟨_, rfl⟩
     rw [<- hV6] at Z6 xb6 ⊢
     have lV6 : V6.length = V.length + 1 := by rw [hV6, List.length_append]; rfl
     have g6 : (FT V6 s)[V.length]? = some (.cells 26 (z.h.id.map by8)) /\ ∀ l, (FT V6 s ++ l)[V.length]? = some (.cells 26 (z.h.id.map by8)) := ⟨by rw [FT_fr xf6]; exact xb6, fun l => by rw [FT_app (by omega), FT_fr xf6]; exact xb6⟩
     have hlG := (hGE (FT V6 s)).ld (P := prog) (t := 28) (by (simp -dsimp +decide only [vsk, v5q, ↓reduceIte, Nat.reduceSub, Nat.reduceAdd, Nat.reduceMul, Nat.reduceLT, Int.reduceAdd, Int.reduceSub, Int.reduceToNat, ci])) (by (simp -dsimp +decide only [vsk, v5q, ↓reduceIte, Nat.reduceSub, Nat.reduceAdd, Nat.reduceMul, Nat.reduceLT, Int.reduceAdd, Int.reduceSub, Int.reduceToNat, ci])) (by decide)
     have hsG6 := Sl.rules (hGE (FT V6 s)).sl (by decide)
     have hla : G[G.length - 1]? = some z.h := by
      rw [<- List.getLast?_eq_getElem?, hG, hds_last, Fst.hd_at hz1]
     have hsub : (G.length : Int) - 1 = ((G.length - 1 : Nat) : Int) := by omega
     have hwr : IntKind.i64.wrap ((G.length - 1 : Nat) : Int) = ((G.length - 1 : Nat) : Int) := IntWalk.i64_in _ (by omega)
     have hzo := Z.w.r.h _ _ hz1
     have hG0 : (0 <= ((G.length - 1 : Nat) : Int)) = True := eq_true (by omega)
     have hG1 : (((G.length - 1 : Nat) : Int) < (G.length : Int)) = True := eq_true (by omega)
     refine SemA.drawE 24 (fun i => true) [(0, true), (1, true), (2, true), (3, true), (4, true), (5, true), (6, true), (7, false), (8, true), (9, true), (10, true), (11, true), (12, true), (13, true), (14, true), (15, true), (16, true), (17, true), (19, true), (18, false), (20, false), (21, true), (22, true), (23, true), (24, false), (25, true), (26, true)] mixed (by kernel_rfl) ?_
     refine tqdz (cj14 @vft @g6 @hsG6 @hlG @hla @hsub @hwr @hG0 @hG1 @Int.toNat_natCast @vh @hidl @true_and @and_true) ?_
     have h32 : List.take 32 (List.drop 0 z.h.id) = z.h.id := by rw [List.drop_zero, List.take_of_length_le (by omega)]
     have hzt : z.ht = G.length - 1 := by omega
     have e6 := eqh hidl hidl
     have hfw := fwork_ok Z6.w hz1
     rw [Z.f] at hfw
     have hwz : z.wk = sumH G := by rw [hG]; exact Z.g.w _ z r hz1 hpa Z.g.t
     have eb := eqB (sumH_lt G) (sumH_lt G)
     refine (rid_ok hzo).det' ?_
     refine tqdz (cj17 @vft @g6 @hsG6 @hlG @hla @hsub @hwr @hG0 @hG1 @Int.toNat_natCast @vh @hidl @true_and @and_true @h32 @e6 @hzt) ?_
     refine hfw.det' ?_
     refine sqdz ?_
     refine (sum14_ok (hGE _) hGo (by omega)).det' ?_
     rw [hwz]
     refine tqdz @eb ?_
     refine works_ok.det' ?_
     refine tqdz (cj2 @EF_slots @bb2) ?_
     exact Vw.done rfl
end Go.Proofs.YtfpjalgfnjjcmaaGreatDoor
namespace Go.Proofs.YtfpjalgfnjjcmaaGreatDoor
open Go.ChangeShapes Go.WideShapes Go.ChangeAt Go.RowKit Go.E Go.Proofs.YtfpjalgfnjjcmaaGreatDoor.Tryz Go.Proofs.Tryz
theorem own : ownKnob prog.godebug = none := by kernel_rfl
theorem laidOut : laidOutB prog = true := by kernel_rfl
theorem gTable : prog.globalNamed "scantling/sha.table" = some 2 := by kernel_rfl
def tblT : TypeId := 178
theorem tTable : (prog.globals[2]?).map (·.type) = some tblT := by kernel_rfl
def tblZ : List Int := tbl.map fun x => (x.toNat : Int)
theorem tblD : (Rows.laid_scantling_sha_table : DataW Unit) = .agg (tblZ.map fun z => .lit (.int .u32 z)) := rfl
theorem gok {W : World} (h : laidMetH prog [("scantling/sha.table", Rows.laid_scantling_sha_table)] W) : GOK G (wholeH W) := by
 rw [MakeChecks.laidMetH_plain _ _ _ (by kernel_rfl)] at h
 obtain ⟨ps, ⟨g0, t0, cs0, f0, p0, q0, hg0, ht0, hv0, hd0, _, _⟩, _, _⟩ := h
 obtain rfl := Option.some.inj (gTable.symm.trans hg0)
 obtain rfl := Option.some.inj (tTable.symm.trans ht0)
 rw [tblD] at hd0
 have hcs := trod_lits (n := 64) Tryz.underlying178 Tryz.underlying23 (by kernel_rfl) (by kernel_rfl) hd0
 have hrd : Rd W (some ⟨2, 0, none⟩) (tblZ.map (Value.int .u32)) := by
  refine .inr ⟨_, rfl, rfl, fun k v hk => ?_⟩
  have := World.var?_cell hg0 hv0 k
  rw [<- hcs] at hk
  rw [add_plain rfl]
  simp only [Nat.zero_add]
  rw [this]
  simpa using hk
 intro g
 unfold G
 split
 . rename_i h0
   subst h0
   refine rel_vp0 (vs := tblZ.map (Value.int .u32)) ?_ (by decide) (arr_holds (wholeH_whole W) hrd)
   have := RelL.ps (Z := wholeH W) (ρ := []) (tblZ.map (Value.int .u32))
   rw [List.map_map] at this
   rw [show tbl.map w32 = tblZ.map (AV.p ∘ Value.int .u32) by rw [tblZ, List.map_map]; rfl]
   exact this
 . exact .p _
theorem door_met (os : Os) (args : Array Value) : laidMetH prog [("scantling/sha.table", Rows.laid_scantling_sha_table)] ((World.doorLaid prog 14 os).forCall (fun _ _ => 0) ⟨#[], args, []⟩).memory :=
 laidMetH_of_parts3 (fuel := 8) (laidMet_of_run' 8 (by kernel_rfl) (by kernel_rfl)) (by kernel_rfl) (by kernel_rfl)
end Go.Proofs.YtfpjalgfnjjcmaaGreatDoor
namespace Go.Proofs.YtfpjalgfnjjcmaaGreatDoor.forestBestL
open Go.ChangeShapes Go.WideShapes Go.ChangeAt Go.RowKit Go.E Go.Proofs.YtfpjalgfnjjcmaaGreatDoor.Tryz Go.Proofs.Tryz
set_option maxRecDepth 100000 in
theorem contract (H : Type) (enc : TypeId × Value -> H) (W : World) (base : Nat) (args : Array Value) (ds gs : List (DataW H)) (before : List MemPlace)
 (hval : ∀ (j : Nat) t v, Tryz.f3.params[j]? = some t -> args[j]? = some v -> Value.okWide prog W .any base t v)
 (hW : DataW.Whole enc prog Tryz.f3.params.toList Rows.forestBestSpec.vars false W args.toList ds gs before)
 (hz : (DataW.weightsEach prog (Tryz.f3.params.toList ++ Rows.forestBestSpec.plain.varTypes prog) (ds ++ gs)).all (· <= reachBytes) = true)
 (hL : laidMetH prog [("scantling/sha.table", Rows.laid_scantling_sha_table)] W) :
 Calls prog 3 args W fun e W' => ∃ v, e = .returned v /\ Rows.forestBestSpec.post enc prog Tryz.f3 false true false false W args v W' := by
 have hn : ds.length = 2 := by
  obtain ⟨p, q, hA, _⟩ := hW
  rw [Tryz.params3] at hA
  exact (trodAll_length hA).2
 have hg : gs = [] := by
  obtain ⟨p, q, hA, hV, _⟩ := hW
  exact (trodVars_none hV).1
 subst hg
 refine law_callsA (tys := [5, 22, 82, 80]) 4 laidOut (by kernel_rfl) (by kernel_rfl) Tryz.underlying4 rfl ?_ hW (by kernel_rfl) (by kernel_rfl) hval hz (gok hL) ?_
 . match ds, hn with
   | [_, _], _ => rfl
 intro xs hx
 rw [Tryz.params3] at hx
 cases hx with | cons h0 hx =>
 cases hx with | cons h1 hx =>
 cases hx
 obtain ⟨a0, rfl⟩ := open_u8 Tryz.underlying5 _ h0
 obtain ⟨a1, e1, h1l⟩ := open_grows h1
 simp only [List.map_cons, List.map_nil, e1]
 exact forestBest_ok h1l
set_option maxRecDepth 100000 in
theorem lifted (os : Os) (started : os.Started) (H : Type) (enc : TypeId × Value -> H) :
 ReturnsInHanded {} Tryz.checked os 3 .any (fun w args => (Rows.forestBestSpec.pre enc prog Tryz.f3 [] false w args /\ laidMetH prog [("scantling/sha.table", Rows.laid_scantling_sha_table)] w) /\ sizedMet enc prog Tryz.f3 (OpenSpec.ofChange Rows.forestBestSpec) false w args)
  (Rows.forestBestSpec.post enc prog Tryz.f3 false true false false) := by
 refine returnsInHanded_of_change_and (C := Tryz.checked) (X := fun w _ => laidMetH prog [("scantling/sha.table", Rows.laid_scantling_sha_table)] w) (fun _ _ _ hh h => h.of_heap hh) own started (by kernel_rfl) func3
  (ChangeSpec.witness_shaped (enc := enc) (C := Tryz.checked) (os := os) (X := fun w _ => laidMetH prog [("scantling/sha.table", Rows.laid_scantling_sha_table)] w) false (World.doorLaid prog 14 os) #[.int .u8 0, .slice none 0 0] 8 rfl (World.shaped_of_RefB (by kernel_rfl) (by kernel_rfl)) (by kernel_rfl) (by kernel_rfl) (by kernel_rfl) (door_met os _)) ?_
 intro W base args ds gs before hval hW _ hz hL _
 exact contract H enc W base args ds gs before hval hW hz hL
theorem said : Rows.ForestBestSaid :=
 OpenClaim.holds_of_wide 3 Tryz.f3 rfl rfl rfl rfl rfl rfl rfl ⟨rfl, rfl, rfl, rfl, rfl⟩ rfl rfl rfl rfl rfl (by kernel_rfl) func3 (by kernel_rfl)
  (of_decide_eq_true (by kernel_rfl)) (by unfold Func.isWrapper; first | (rw [if_pos (by decide +kernel)]; kernel_rfl) | (rw [if_neg (by decide +kernel)]; exact ⟨rfl, rfl⟩))
  (fun os started H enc _ => lifted os started H enc)
theorem proved : Rows.ForestBestCardSaid :=
 Claim7.holds_tied_plain_at .later [] [.data] true Rows.forestBestCard.stood.harness false
  said (fun _ h => by cases h) (by kernel_rfl) (fun _ h => by cases h) forestBest_row_tie rfl ⟨rfl, rfl⟩ (by kernel_rfl) rfl
  (fun f fn hf hfn => by
   obtain rfl : f = 3 := Option.some.inj ((show prog.funcNamed "scantling/scantlinglaw14.ForestBest" = some 3 by kernel_rfl).symm.trans hf) |>.symm
   obtain rfl : fn = Tryz.f3 := (Option.some.inj (func3.symm.trans hfn)).symm
   exact ⟨by kernel_rfl, fun j t ht => by
    have hm : t ∈ Tryz.f3.params.toList := by simpa using Array.mem_of_getElem? ht
    have hall : (Tryz.f3.params.toList.all fun u => !prog.wantsStandIn u) = true := by kernel_rfl
    exact (show prog.wantsStandIn t = false by simpa using List.all_eq_true.1 hall t hm)⟩)
  (by kernel_rfl)
end Go.Proofs.YtfpjalgfnjjcmaaGreatDoor.forestBestL
