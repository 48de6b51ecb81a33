/-
  'scantlinglaw13.RulesTurns' returns true whatever comes, and leaves what came as it was; its row's listed variable is tied to the program's text. No condition.
-/
import Derived.Test.YtolaljbainjjaaaDoorQc4
import Derived.Test.YtolaljbainjjaaaDoorRows
import Derived.LaidMore
import Derived.OpenShut
import Derived.Stop.Joined
import Derived.Test.YtolaljbainjjaaaDoorCards
import Derived.Test.YtolaljbainjjaaaDoorTie
import Derived.SevenTiedAt
import Derived.ChangeCalls
set_option linter.unusedSimpArgs false
set_option linter.unusedVariables false
set_option linter.unusedSectionVars false
set_option maxRecDepth 8000
set_option maxHeartbeats 4000000
namespace Go.Proofs.YtolaljbainjjaaaDoor
open Go.E Go.Proofs.YtolaljbainjjaaaDoor.Tryd Go.Proofs.Tryd
def turnH (b t : UInt32) : Hdr := ⟨0, h0b, h0b, t, b, 0⟩
theorem turnH_ok (b t : UInt32) : (turnH b t).Ok := ⟨rfl, rfl⟩
def turnsH (b : UInt32) (l : List UInt32) : List Hdr := l.map (turnH b)
theorem turnsH_ok (b : UInt32) (l : List UInt32) : ∀ x ∈ turnsH b l, x.Ok := fun x hx => by
 obtain ⟨t, _, rfl⟩ := List.mem_map.1 hx; exact turnH_ok b t
theorem turnsH_wd (b : UInt32) (l : List UInt32) : ∀ x ∈ turnsH b l, (Hdr.cs x).length = 68 := fun x hx => Hdr.cs_len (turnsH_ok b l x hx)
theorem e400 : (Bg 0).set 0 (.p (.int .u64 400)) = Bg 400 := rfl
theorem rulesTurns_ok {T : Tbl} {interval spacing : UInt8} {stamps : List UInt32} {bits : UInt32} : CallA prog G 3 [by8 interval, by8 spacing, .vs (stamps.map w32) stamps.length, w32 bits] T fun v _ _ => v = .p (.bool true) := by
 refine CallA.wfs fun wf => ?_
 have wt := wf.t
 have z256 : 0 < 2 ^ 256 := by decide
 have ez : [oQ, oQ, oQ, oQ] = Bg 0 := rfl
 obtain ⟨n, hn⟩ : ∃ n, n = 2 + interval.toNat % 29 := ⟨_, rfl⟩
 have hn30 : 2 <= n /\ n <= 30 := by omega
 have hi8 := interval.toNat_lt
 have hw8 : IntKind.i64.wrap (interval.toNat : Int) = (interval.toNat : Int) := IntWalk.i64_in _ (by omega)
 have hmod : (interval.toNat : Int).tmod 29 = ((interval.toNat % 29 : Nat) : Int) := rfl
 have hadd : (2 : Int) + ((interval.toNat % 29 : Nat) : Int) = (n : Int) := by omega
 obtain ⟨sp, hsp⟩ : ∃ sp, sp = UInt32.ofInt 1 + spacing.toUInt32 := ⟨_, rfl⟩
 have hspn : sp.toNat = 1 + spacing.toNat := by
  have := spacing.toNat_lt
  rw [hsp, UInt32.toNat_add, UInt8.toNat_toUInt32, show (UInt32.ofInt 1).toNat = 1 from rfl]; omega
 have hsp8 := spacing.toNat_lt
 obtain ⟨p, hp⟩ : ∃ p, p = easyP (n : Int) sp := ⟨_, rfl⟩
 have hpo : p.Ok := by rw [hp]; exact easy_ok' (by omega)
 have hpm : mayB p = true := by rw [hp]; exact easy_may (by omega) (by omega) (by omega) (by omega)
 have hpl : p.limit = 545259519 := by rw [hp]; rfl
 have hlim : ofT p.limit.toNat = some eT := by rw [hpl]; exact ex_t
 have heT : eT < 2 ^ 256 /\ 1 <= eT := by unfold eT; exact ⟨by decide, by decide⟩
 have hpi : p.interval = (n : Int) := by rw [hp]; rfl
 have hps : p.spacing = sp := by rw [hp]; rfl
 have hr := Par.rules hpo
 have hpw := vz72.2 _ hpo
 have g0 := fun l => gn0 T (.cells 30 p.cs) l
 refine CallA.eV 25 func3 ntmps3 results3 ?_
 simp -dsimp +decide only [vt2, vy, vz, vze, vr, ty, en, ↓reduceIte, Nat.reduceSub, Nat.reduceAdd, Nat.reduceMul, Nat.reduceLT, Int.reduceAdd, Int.reduceSub, Int.reduceToNat, ci]
 simp -dsimp +decide (disch := omega) only [vt2, vy, vz, vze, vr, ty, en, ↓reduceIte, Nat.reduceSub, Nat.reduceAdd, Nat.reduceMul, Nat.reduceLT, Int.reduceAdd, Int.reduceSub, Int.reduceToNat, ci, vi, getO_i, vt, hw8, hmod, hadd, <- hsp]
 refine (easy13_ok (i := (n : Int)) (s := sp) (by omega)).det' ?_
 rw [<- hp]
 simp -dsimp +decide (disch := omega) only [vt2, vy, vz, vze, vr, ty, en, ↓reduceIte, Nat.reduceSub, Nat.reduceAdd, Nat.reduceMul, Nat.reduceLT, Int.reduceAdd, Int.reduceSub, Int.reduceToNat, ci, vi, getO_i, vt, hmod, hadd, <- hsp, hr, ez72, hpw, vz72, g0, ez, vbg]
 refine of03_ok.det' ?_
 rw [ofV_n]
 have hO := ofN_lt bits
 obtain ⟨O, hOO⟩ : ∃ O, O = ofN bits := ⟨_, rfl⟩
 rw [<- hOO] at hO ⊢
 have g1 := fun a l => gn1 T a (.cells 34 (Bg O)) l
 simp -dsimp +decide (disch := omega) only [vt2, vy, vz, vze, vr, ty, en, ↓reduceIte, Nat.reduceSub, Nat.reduceAdd, Nat.reduceMul, Nat.reduceLT, Int.reduceAdd, Int.reduceSub, Int.reduceToNat, ci, vi, getO_i, vt, hmod, hadd, <- hsp, hr, g0, ez, vbg]
 refine of03_ok.det' ?_
 rw [hlim]
 unfold ofV
 have g2 := fun a b l => gn2 T a b (.cells 34 (Bg eT)) l
 by_cases c1 : (stamps.length : Int) < (n : Int)
 . have i1 := eq_true c1
   simp -dsimp +decide (disch := omega) only [vt2, vy, vz, vze, vr, ty, en, ↓reduceIte, Nat.reduceSub, Nat.reduceAdd, Nat.reduceMul, Nat.reduceLT, Int.reduceAdd, Int.reduceSub, Int.reduceToNat, ci, vi, getO_i, vt, hmod, hadd, <- hsp, hr, g0, g1, g2, ez, vbg, i1, bb2]
   refine works_ok.det' ?_
   simp -dsimp +decide (disch := omega) only [vt2, vy, vz, vze, vr, ty, en, ↓reduceIte, Nat.reduceSub, Nat.reduceAdd, Nat.reduceMul, Nat.reduceLT, Int.reduceAdd, Int.reduceSub, Int.reduceToNat, ci, vi, getO_i, vt]
   exact Vw.cut rfl
 have i1 := eq_false c1
 cases hoT : ofT bits.toNat with
 | none =>
   simp -dsimp +decide (disch := omega) only [vt2, vy, vz, vze, vr, ty, en, ↓reduceIte, Nat.reduceSub, Nat.reduceAdd, Nat.reduceMul, Nat.reduceLT, Int.reduceAdd, Int.reduceSub, Int.reduceToNat, ci, vi, getO_i, vt, hmod, hadd, <- hsp, hr, g0, g1, g2, ez, vbg, i1, bb2, Option.isSome_none]
   refine works_ok.det' ?_
   simp -dsimp +decide (disch := omega) only [vt2, vy, vz, vze, vr, ty, en, ↓reduceIte, Nat.reduceSub, Nat.reduceAdd, Nat.reduceMul, Nat.reduceLT, Int.reduceAdd, Int.reduceSub, Int.reduceToNat, ci, vi, getO_i, vt]
   exact Vw.cut rfl
 | some O' =>
 have hOe : O' = O := by rw [hOO, ofN, hoT]; rfl
 subst hOe
 have hO1 : 1 <= O' := by have := (ofT_lt hoT).2; omega
 simp -dsimp +decide (disch := omega) only [vt2, vy, vz, vze, vr, ty, en, ↓reduceIte, Nat.reduceSub, Nat.reduceAdd, Nat.reduceMul, Nat.reduceLT, Int.reduceAdd, Int.reduceSub, Int.reduceToNat, ci, vi, getO_i, vt, hmod, hadd, <- hsp, hr, g0, g1, g2, ez, vbg, i1, bb2, Option.isSome_some]
 refine (compact03_ok hO).det' ?_
 by_cases c2 : UInt32.ofNat (cmpN O') = bits
 rotate_left
 . have i2 : (((UInt32.ofNat (cmpN O')).toNat : Int) = (bits.toNat : Int)) = False := eq_false fun e => c2 (UInt32.toNat_inj.1 (by omega))
   simp -dsimp +decide (disch := omega) only [vt2, vy, vz, vze, vr, ty, en, ↓reduceIte, Nat.reduceSub, Nat.reduceAdd, Nat.reduceMul, Nat.reduceLT, Int.reduceAdd, Int.reduceSub, Int.reduceToNat, ci, vi, getO_i, vt, hmod, hadd, <- hsp, hr, g0, g1, g2, ez, vbg, i2, bb2]
   refine works_ok.det' ?_
   simp -dsimp +decide (disch := omega) only [vt2, vy, vz, vze, vr, ty, en, ↓reduceIte, Nat.reduceSub, Nat.reduceAdd, Nat.reduceMul, Nat.reduceLT, Int.reduceAdd, Int.reduceSub, Int.reduceToNat, ci, vi, getO_i, vt]
   exact Vw.cut rfl
 have i2 : (((UInt32.ofNat (cmpN O')).toNat : Int) = (bits.toNat : Int)) = True := eq_true (by rw [c2])
 simp -dsimp +decide (disch := omega) only [vt2, vy, vz, vze, vr, ty, en, ↓reduceIte, Nat.reduceSub, Nat.reduceAdd, Nat.reduceMul, Nat.reduceLT, Int.reduceAdd, Int.reduceSub, Int.reduceToNat, ci, vi, getO_i, vt, hmod, hadd, <- hsp, hr, g0, g1, g2, ez, vbg, i2, bb2]
 refine (less02_ok heT.1 hO).det' ?_
 by_cases c3 : eT < O'
 . have i3 := eq_true c3
   simp -dsimp +decide (disch := omega) only [vt2, vy, vz, vze, vr, ty, en, ↓reduceIte, Nat.reduceSub, Nat.reduceAdd, Nat.reduceMul, Nat.reduceLT, Int.reduceAdd, Int.reduceSub, Int.reduceToNat, ci, vi, getO_i, vt, hmod, hadd, <- hsp, hr, g0, g1, g2, ez, vbg, i3, bb2]
   refine works_ok.det' ?_
   simp -dsimp +decide (disch := omega) only [vt2, vy, vz, vze, vr, ty, en, ↓reduceIte, Nat.reduceSub, Nat.reduceAdd, Nat.reduceMul, Nat.reduceLT, Int.reduceAdd, Int.reduceSub, Int.reduceToNat, ci, vi, getO_i, vt]
   exact Vw.cut rfl
 have i3 := eq_false c3
 simp -dsimp +decide (disch := omega) only [vt2, vy, vz, vze, vr, ty, en, ↓reduceIte, Nat.reduceSub, Nat.reduceAdd, Nat.reduceMul, Nat.reduceLT, Int.reduceAdd, Int.reduceSub, Int.reduceToNat, ci, vi, getO_i, vt, hmod, hadd, <- hsp, hr, g0, g1, g2, ez, vbg, i3, bb2]
 refine SemA.adopt 15 28 68 (by decide) rfl ?_
 simp -dsimp +decide only [vt2, vy, vz, vze, vr, ty, en, ↓reduceIte, Nat.reduceSub, Nat.reduceAdd, Nat.reduceMul, Nat.reduceLT, Int.reduceAdd, Int.reduceSub, Int.reduceToNat, ci, vt]
 have hst : n <= stamps.length := by omega
 refine SemA.loopK (T.length + 4) (fun i : Nat => [(2, .vs (stamps.map w32) stamps.length), (3, w32 bits), (9, wint (n : Int)), (10, .ptr T.length 0), (11, .ptr (T.length + 1) 0), (13, .ptr (T.length + 2) 0), (15, .sl (T.length + 3) 0 i), (16, wint (i : Int))]) (fun i => T ++ [.cells 30 p.cs, .cells 34 (Bg O'), .cells 34 (Bg eT), .buf 28 68 ((turnsH bits (stamps.take i)).flatMap Hdr.cs)]) (fun i => i <= n) (fun i => n - i) 0 [] 0 (fun _ : Unit => [(3, w32 bits), (9, wint (n : Int)), (10, .ptr T.length 0), (11, .ptr (T.length + 1) 0), (13, .ptr (T.length + 2) 0), (15, .sl (T.length + 3) 0 n)]) (fun _ => T ++ [.cells 30 p.cs, .cells 34 (Bg O'), .cells 34 (Bg eT), .buf 28 68 ((turnsH bits (stamps.take n)).flatMap Hdr.cs)]) (fun _ => True) (by omega) (by simp) (by (simp -dsimp +decide (disch := omega) only [vt2, vy, vz, vze, vr, ty, en, ↓reduceIte, Nat.reduceSub, Nat.reduceAdd, Nat.reduceMul, Nat.reduceLT, Int.reduceAdd, Int.reduceSub, Int.reduceToNat, ci, vi, getO_i, hmod, hadd]); first | rfl | exact ⟨rfl, rfl⟩ | done) rfl (by simp) ?_ ?_
 . rintro i g hi
   refine SemA.o ?_
   simp -dsimp +decide (disch := omega) only [vt2, vy, vz, vze, vr, ty, en, ↓reduceIte, Nat.reduceSub, Nat.reduceAdd, Nat.reduceMul, Nat.reduceLT, Int.reduceAdd, Int.reduceSub, Int.reduceToNat, ci, vi, getO_i, vt]
   refine CondP.dec (fun h => ?_) (fun h => ?_)
   . obtain ⟨x, hx⟩ : ∃ x, stamps[i]? = some x := ⟨stamps[i]'(by omega), by simp⟩
     have hnx : (turnsH bits (stamps.take i)).flatMap Hdr.cs ++ (turnH bits x).cs = (turnsH bits (stamps.take (i + 1))).flatMap Hdr.cs := by rw [List.take_add_one, hx]; simp [turnsH]
     have hlen : ((turnsH bits (stamps.take i)).flatMap Hdr.cs).length = i * 68 := by rw [flat_len (turnsH_wd _ _)]; simp [turnsH]; omega
     have hxo := turnH_ok bits x
     have hxr := Hdr.rules hxo
     have hv := vz68.2 _ hxo
     simp -dsimp +decide (disch := omega) only [vt2, vy, vz, vze, vr, ty, en, ↓reduceIte, Nat.reduceSub, Nat.reduceAdd, Nat.reduceMul, Nat.reduceLT, Int.reduceAdd, Int.reduceSub, Int.reduceToNat, ci, vi, getO_i, vt, wt, hx, ez68]
     have hs0 : stamps ≠ [] := fun e => by rw [e] at hx; cases hx
     refine ⟨by first | exact ⟨by omega, by omega⟩ | exact ⟨by omega, by omega, hs0⟩ | exact ⟨by omega, by omega, by simpa using hs0⟩, ?_⟩
     show getO (some (turnH bits x).cs) _
     simp -dsimp +decide (disch := omega) only [vt2, vy, vz, vze, vr, ty, en, ↓reduceIte, Nat.reduceSub, Nat.reduceAdd, Nat.reduceMul, Nat.reduceLT, Int.reduceAdd, Int.reduceSub, Int.reduceToNat, ci, vi, getO_i, vt, wt, hx, rep1, ez68, hv, hxr, vz68, hnx, hdrs_wo _ (turnsH_ok _ _), hr, Bg_wo]
     exact ⟨⟨hlen, by omega, by omega⟩, i + 1, ⟨by omega, by omega⟩, ⟨rfl, rfl⟩, rfl⟩
   . have e : i = n := by omega
     subst e
     simp -dsimp +decide (disch := omega) only [vt2, vy, vz, vze, vr, ty, en, ↓reduceIte, Nat.reduceSub, Nat.reduceAdd, Nat.reduceMul, Nat.reduceLT, Int.reduceAdd, Int.reduceSub, Int.reduceToNat, ci, vi, getO_i, vt, wt, hdrs_wo _ (turnsH_ok _ _), hr, Bg_wo]
     first | exact ⟨(), trivial⟩ | exact ⟨(), rfl⟩ | exact ⟨(), rfl, rfl⟩
 . rintro _ g tmp -
   simp -dsimp +decide (disch := omega) only [vt2, vy, vz, vze, vr, ty, en, ↓reduceIte, Nat.reduceSub, Nat.reduceAdd, Nat.reduceMul, Nat.reduceLT, Int.reduceAdd, Int.reduceSub, Int.reduceToNat, ci, vi, getO_i, vt, hr, g0]
   obtain ⟨hs, hhs⟩ : ∃ hs, hs = turnsH bits (stamps.take n) := ⟨_, rfl⟩
   have hsl : hs.length = n := by rw [hhs]; simp [turnsH]; omega
   have hso : ∀ x ∈ hs, x.Ok := by rw [hhs]; exact turnsH_ok _ _
   rw [<- hhs]
   have hes := fun l => Es.obj (T := T ++ .cells 30 p.cs :: .cells 34 (Bg O') :: .cells 34 (Bg eT) :: .buf 28 68 (hs.flatMap Hdr.cs) :: l) (xs := hs) (gn3 T _ _ _ _ _) rfl fun x hx => Hdr.cs_len (hso x hx)
   rw [hsl] at hes
   refine (rbits_ok hpo (hes _) hso (by omega)).det' ?_
   obtain ⟨fi, hfi⟩ : ∃ fi, stamps[0]? = some fi := ⟨stamps[0]'(by omega), by simp⟩
   obtain ⟨la, hla⟩ : ∃ la, stamps[n - 1]? = some la := ⟨stamps[n - 1]'(by omega), by simp⟩
   have hget : ∀ i x, i < n -> stamps[i]? = some x -> hs[i]? = some (turnH bits x) := fun i x hi hx => by
    rw [hhs, turnsH, List.getElem?_map, List.getElem?_take, if_pos hi, hx]; rfl
   have hbt : bitsB p hs = turnB p (turnH bits la) (turnH bits fi) := by
    unfold bitsB
    rw [List.getLast?_eq_getElem?, hsl, hget (n - 1) la (by omega) hla]
    simp only [hpm]
    rw [if_neg (by decide), hpi, Int.toNat_natCast, Nat.mod_self, if_neg (by decide), Nat.sub_self, hget 0 fi (by omega) hfi]
   obtain ⟨X, hX⟩ : ∃ X, X = max 1 (min (O' * spanN p la fi / wantN p) eT) := ⟨_, rfl⟩
   have hofl : ofN p.limit = eT := by rw [ofN, hlim]; rfl
   have hbx : bitsB p hs = UInt32.ofNat (cmpN X) := by
    rw [hbt, turnB, hofl, hX]
    show UInt32.ofNat (cmpN (max 1 (min (ofN bits * spanN p la fi / wantN p) eT))) = _
    rw [<- hOO]
   have hwant : wantN p = n * sp.toNat := by unfold wantN; rw [hpi, hps, Int.toNat_natCast]
   have hXb : 1 <= X /\ X <= eT := by have := heT.2; omega
   obtain ⟨t, ht1, ht2, ht3, ht4, ht5, ht6⟩ := compact_back (x := X) (by omega) (by omega)
   have hspan : spanN p la fi <= 4 * wantN p /\ wantN p / 4 <= spanN p la fi := by unfold spanN; omega
   have hwant1 : 1 <= wantN p := by rw [hwant]; exact Nat.mul_pos (by omega) (by omega)
   obtain ⟨k1, k2, k3⟩ := turn_law hO1 (by omega) hspan.1 hspan.2 hwant1 hX ht2 ht3
   have hgot : (UInt32.ofNat (cmpN X)).toNat = cmpN X := by rw [UInt32.toNat_ofNat', Nat.mod_eq_of_lt ht6]
   rw [hbx]
   simp -dsimp +decide (disch := omega) only [vt2, vy, vz, vze, vr, ty, en, ↓reduceIte, Nat.reduceSub, Nat.reduceAdd, Nat.reduceMul, Nat.reduceLT, Int.reduceAdd, Int.reduceSub, Int.reduceToNat, ci, vi, getO_i, vt, hr, g0]
   refine of03_ok.det' ?_
   rw [hgot, ht1]
   unfold ofV
   have htl : t < 2 ^ 256 := by omega
   have g3 := fun l => gn4 T (.cells 30 p.cs) (.cells 34 (Bg O')) (.cells 34 (Bg eT)) (.buf 28 68 (hs.flatMap Hdr.cs)) (.cells 34 (Bg t)) l
   simp -dsimp +decide (disch := omega) only [vt2, vy, vz, vze, vr, ty, en, ↓reduceIte, Nat.reduceSub, Nat.reduceAdd, Nat.reduceMul, Nat.reduceLT, Int.reduceAdd, Int.reduceSub, Int.reduceToNat, ci, vi, getO_i, vt, hr, g0, g1, g2, g3, ez, vbg, Option.isSome_some, bb2]
   refine (less02_ok heT.1 htl).det' ?_
   rw [decide_eq_false (show ¬ eT < t by omega)]
   simp -dsimp +decide (disch := omega) only [vt2, vy, vz, vze, vr, ty, en, ↓reduceIte, Nat.reduceSub, Nat.reduceAdd, Nat.reduceMul, Nat.reduceLT, Int.reduceAdd, Int.reduceSub, Int.reduceToNat, ci, vi, getO_i, vt, hr, g0, g1, g2, g3, ez, vbg, bb2]
   refine (compact03_ok htl).det' ?_
   rw [ht5]
   have i4 : (((UInt32.ofNat (cmpN X)).toNat : Int) = ((cmpN X : Nat) : Int)) = True := eq_true (by rw [hgot])
   simp -dsimp +decide (disch := omega) only [vt2, vy, vz, vze, vr, ty, en, ↓reduceIte, Nat.reduceSub, Nat.reduceAdd, Nat.reduceMul, Nat.reduceLT, Int.reduceAdd, Int.reduceSub, Int.reduceToNat, ci, vi, getO_i, vt, hr, g0, g1, g2, g3, ez, vbg, bb2, i4]
   refine (mul02_ok (n := 4) hO).det' ?_
   rw [show (4 : UInt64).toNat = 4 from rfl]
   obtain ⟨mo, hmo⟩ : ∃ mo, mo = O' * 4 % 2 ^ 256 := ⟨_, rfl⟩
   have hmol : mo < 2 ^ 256 := by rw [hmo]; exact Nat.mod_lt _ z256
   obtain ⟨ov, hov⟩ : ∃ ov, ov = UInt64.ofNat (O' * 4 / 2 ^ 256) := ⟨_, rfl⟩
   have hovn : ov.toNat = O' * 4 / 2 ^ 256 := by rw [hov, UInt64.toNat_ofNat', Nat.mod_eq_of_lt (by omega)]
   rw [<- hmo, <- hov]
   have g4 := fun l => gn5 T (.cells 30 p.cs) (.cells 34 (Bg O')) (.cells 34 (Bg eT)) (.buf 28 68 (hs.flatMap Hdr.cs)) (.cells 34 (Bg t)) (.cells 34 (Bg mo)) l
   have wantO : (UInt64.ofInt (n : Int) * sp.toUInt64).toNat = wantN p := by
    rw [hwant, UInt64.toNat_mul, UInt32.toNat_toUInt64, show (UInt64.ofInt (n : Int)).toNat = n by rw [UInt64.ofInt, UInt64.toNat_ofNat']; omega]
    have h1 : n * sp.toNat <= 30 * 256 := Nat.mul_le_mul hn30.2 (by omega)
    exact Nat.mod_eq_of_lt (by omega)
   by_cases c5 : ov.toNat = 0
   . have i5 := eq_true (show ((ov.toNat : Int) = 0) by omega)
     simp -dsimp +decide (disch := omega) only [vt2, vy, vz, vze, vr, ty, en, ↓reduceIte, Nat.reduceSub, Nat.reduceAdd, Nat.reduceMul, Nat.reduceLT, Int.reduceAdd, Int.reduceSub, Int.reduceToNat, ci, vi, getO_i, vt, hr, g0, g1, g2, g3, g4, ez, vbg, bb2, i5]
     refine (less02_ok hmol htl).det' ?_
     have hmoe : mo = O' * 4 := by omega
     rw [decide_eq_false (show ¬ mo < t by omega)]
     simp -dsimp +decide (disch := omega) only [vt2, vy, vz, vze, vr, ty, en, ↓reduceIte, Nat.reduceSub, Nat.reduceAdd, Nat.reduceMul, Nat.reduceLT, Int.reduceAdd, Int.reduceSub, Int.reduceToNat, ci, vi, getO_i, vt, hr, g0, g1, g2, g3, g4, ez, vbg, bb2, i5]
     refine (mul02_ok (n := 5) htl).det' ?_
     rw [show (5 : UInt64).toNat = 5 from rfl]
     obtain ⟨up, hup⟩ : ∃ up, up = t * 5 % 2 ^ 256 := ⟨_, rfl⟩
     have hupl : up < 2 ^ 256 := by rw [hup]; exact Nat.mod_lt _ z256
     obtain ⟨o2, ho2⟩ : ∃ o2, o2 = UInt64.ofNat (t * 5 / 2 ^ 256) := ⟨_, rfl⟩
     have ho2n : o2.toNat = t * 5 / 2 ^ 256 := by rw [ho2, UInt64.toNat_ofNat', Nat.mod_eq_of_lt (by omega)]
     rw [<- hup, <- ho2]
     have g5 := fun l => gn6 T (.cells 30 p.cs) (.cells 34 (Bg O')) (.cells 34 (Bg eT)) (.buf 28 68 (hs.flatMap Hdr.cs)) (.cells 34 (Bg t)) (.cells 34 (Bg mo)) (.cells 34 (Bg up)) l
     simp -dsimp +decide (disch := omega) only [vt2, vy, vz, vze, vr, ty, en, ↓reduceIte, Nat.reduceSub, Nat.reduceAdd, Nat.reduceMul, Nat.reduceLT, Int.reduceAdd, Int.reduceSub, Int.reduceToNat, ci, vi, getO_i, vt, hr, g0, g1, g2, g3, g4, g5, ez, vbg, bb2, e400]
     refine (add02_ok hupl (by decide)).det' ?_
     obtain ⟨mr, hmr⟩ : ∃ mr, mr = (up + 400) % 2 ^ 256 := ⟨_, rfl⟩
     have hmrl : mr < 2 ^ 256 := by rw [hmr]; exact Nat.mod_lt _ z256
     rw [<- hmr]
     have g6 := fun l => gn7 T (.cells 30 p.cs) (.cells 34 (Bg O')) (.cells 34 (Bg eT)) (.buf 28 68 (hs.flatMap Hdr.cs)) (.cells 34 (Bg t)) (.cells 34 (Bg mo)) (.cells 34 (Bg up)) (.cells 34 (Bg mr)) l
     by_cases c6 : o2.toNat = 0
     rotate_left
     . have i6 := eq_false (show ¬ ((o2.toNat : Int) = 0) by omega)
       simp -dsimp +decide (disch := omega) only [vt2, vy, vz, vze, vr, ty, en, ↓reduceIte, Nat.reduceSub, Nat.reduceAdd, Nat.reduceMul, Nat.reduceLT, Int.reduceAdd, Int.reduceSub, Int.reduceToNat, ci, vi, getO_i, vt, hr, g0, g1, g2, g3, g4, g5, g6, ez, vbg, bb2, i6]
       refine works_ok.det' ?_
       simp -dsimp +decide (disch := omega) only [vt2, vy, vz, vze, vr, ty, en, ↓reduceIte, Nat.reduceSub, Nat.reduceAdd, Nat.reduceMul, Nat.reduceLT, Int.reduceAdd, Int.reduceSub, Int.reduceToNat, ci, vi, getO_i, vt]
       exact Vw.cut rfl
     have i6 := eq_true (show ((o2.toNat : Int) = 0) by omega)
     by_cases c7 : 2 ^ 256 <= up + 400
     . have i7 := decide_eq_true c7
       rw [i7]
       simp -dsimp +decide (disch := omega) only [vt2, vy, vz, vze, vr, ty, en, ↓reduceIte, Nat.reduceSub, Nat.reduceAdd, Nat.reduceMul, Nat.reduceLT, Int.reduceAdd, Int.reduceSub, Int.reduceToNat, ci, vi, getO_i, vt, hr, g0, g1, g2, g3, g4, g5, g6, ez, vbg, bb2, i6]
       refine works_ok.det' ?_
       simp -dsimp +decide (disch := omega) only [vt2, vy, vz, vze, vr, ty, en, ↓reduceIte, Nat.reduceSub, Nat.reduceAdd, Nat.reduceMul, Nat.reduceLT, Int.reduceAdd, Int.reduceSub, Int.reduceToNat, ci, vi, getO_i, vt]
       exact Vw.cut rfl
     rw [decide_eq_false c7]
     have hmre : mr = t * 5 + 400 := by omega
     have wO := wantO
     by_cases c8 : ((UInt64.ofInt (n : Int) * sp.toUInt64).toNat : Int) < 40
     . have i8 := eq_true c8
       simp -dsimp +decide (disch := omega) only [vt2, vy, vz, vze, vr, ty, en, ↓reduceIte, Nat.reduceSub, Nat.reduceAdd, Nat.reduceMul, Nat.reduceLT, Int.reduceAdd, Int.reduceSub, Int.reduceToNat, ci, vi, getO_i, vt, hr, g0, g1, g2, g3, g4, g5, g6, ez, vbg, bb2, i6, hps, i8]
       refine works_ok.det' ?_
       simp -dsimp +decide (disch := omega) only [vt2, vy, vz, vze, vr, ty, en, ↓reduceIte, Nat.reduceSub, Nat.reduceAdd, Nat.reduceMul, Nat.reduceLT, Int.reduceAdd, Int.reduceSub, Int.reduceToNat, ci, vi, getO_i, vt]
       exact Vw.cut rfl
     have i8 := eq_false c8
     simp -dsimp +decide (disch := omega) only [vt2, vy, vz, vze, vr, ty, en, ↓reduceIte, Nat.reduceSub, Nat.reduceAdd, Nat.reduceMul, Nat.reduceLT, Int.reduceAdd, Int.reduceSub, Int.reduceToNat, ci, vi, getO_i, vt, hr, g0, g1, g2, g3, g4, g5, g6, ez, vbg, bb2, i6, hps, i8]
     refine (less02_ok hmrl hO).det' ?_
     rw [decide_eq_false (show ¬ mr < O' by have := k3 (by omega); omega)]
     simp -dsimp +decide (disch := omega) only [vt2, vy, vz, vze, vr, ty, en, ↓reduceIte, Nat.reduceSub, Nat.reduceAdd, Nat.reduceMul, Nat.reduceLT, Int.reduceAdd, Int.reduceSub, Int.reduceToNat, ci, vi, getO_i, vt, hr, g0, g1, g2, g3, g4, g5, g6, ez, vbg, bb2]
     refine works_ok.det' ?_
     simp -dsimp +decide (disch := omega) only [vt2, vy, vz, vze, vr, ty, en, ↓reduceIte, Nat.reduceSub, Nat.reduceAdd, Nat.reduceMul, Nat.reduceLT, Int.reduceAdd, Int.reduceSub, Int.reduceToNat, ci, vi, getO_i, vt]
     exact Vw.cut rfl
   . have i5 := eq_false (show ¬ ((ov.toNat : Int) = 0) by omega)
     simp -dsimp +decide (disch := omega) only [vt2, vy, vz, vze, vr, ty, en, ↓reduceIte, Nat.reduceSub, Nat.reduceAdd, Nat.reduceMul, Nat.reduceLT, Int.reduceAdd, Int.reduceSub, Int.reduceToNat, ci, vi, getO_i, vt, hr, g0, g1, g2, g3, g4, ez, vbg, bb2, i5]
     refine (mul02_ok (n := 5) htl).det' ?_
     rw [show (5 : UInt64).toNat = 5 from rfl]
     obtain ⟨up, hup⟩ : ∃ up, up = t * 5 % 2 ^ 256 := ⟨_, rfl⟩
     have hupl : up < 2 ^ 256 := by rw [hup]; exact Nat.mod_lt _ z256
     obtain ⟨o2, ho2⟩ : ∃ o2, o2 = UInt64.ofNat (t * 5 / 2 ^ 256) := ⟨_, rfl⟩
     have ho2n : o2.toNat = t * 5 / 2 ^ 256 := by rw [ho2, UInt64.toNat_ofNat', Nat.mod_eq_of_lt (by omega)]
     rw [<- hup, <- ho2]
     have g5 := fun l => gn6 T (.cells 30 p.cs) (.cells 34 (Bg O')) (.cells 34 (Bg eT)) (.buf 28 68 (hs.flatMap Hdr.cs)) (.cells 34 (Bg t)) (.cells 34 (Bg mo)) (.cells 34 (Bg up)) l
     simp -dsimp +decide (disch := omega) only [vt2, vy, vz, vze, vr, ty, en, ↓reduceIte, Nat.reduceSub, Nat.reduceAdd, Nat.reduceMul, Nat.reduceLT, Int.reduceAdd, Int.reduceSub, Int.reduceToNat, ci, vi, getO_i, vt, hr, g0, g1, g2, g3, g4, g5, ez, vbg, bb2, e400]
     refine (add02_ok hupl (by decide)).det' ?_
     obtain ⟨mr, hmr⟩ : ∃ mr, mr = (up + 400) % 2 ^ 256 := ⟨_, rfl⟩
     have hmrl : mr < 2 ^ 256 := by rw [hmr]; exact Nat.mod_lt _ z256
     rw [<- hmr]
     have g6 := fun l => gn7 T (.cells 30 p.cs) (.cells 34 (Bg O')) (.cells 34 (Bg eT)) (.buf 28 68 (hs.flatMap Hdr.cs)) (.cells 34 (Bg t)) (.cells 34 (Bg mo)) (.cells 34 (Bg up)) (.cells 34 (Bg mr)) l
     by_cases c6 : o2.toNat = 0
     rotate_left
     . have i6 := eq_false (show ¬ ((o2.toNat : Int) = 0) by omega)
       simp -dsimp +decide (disch := omega) only [vt2, vy, vz, vze, vr, ty, en, ↓reduceIte, Nat.reduceSub, Nat.reduceAdd, Nat.reduceMul, Nat.reduceLT, Int.reduceAdd, Int.reduceSub, Int.reduceToNat, ci, vi, getO_i, vt, hr, g0, g1, g2, g3, g4, g5, g6, ez, vbg, bb2, i6]
       refine works_ok.det' ?_
       simp -dsimp +decide (disch := omega) only [vt2, vy, vz, vze, vr, ty, en, ↓reduceIte, Nat.reduceSub, Nat.reduceAdd, Nat.reduceMul, Nat.reduceLT, Int.reduceAdd, Int.reduceSub, Int.reduceToNat, ci, vi, getO_i, vt]
       exact Vw.cut rfl
     have i6 := eq_true (show ((o2.toNat : Int) = 0) by omega)
     by_cases c7 : 2 ^ 256 <= up + 400
     . have i7 := decide_eq_true c7
       rw [i7]
       simp -dsimp +decide (disch := omega) only [vt2, vy, vz, vze, vr, ty, en, ↓reduceIte, Nat.reduceSub, Nat.reduceAdd, Nat.reduceMul, Nat.reduceLT, Int.reduceAdd, Int.reduceSub, Int.reduceToNat, ci, vi, getO_i, vt, hr, g0, g1, g2, g3, g4, g5, g6, ez, vbg, bb2, i6]
       refine works_ok.det' ?_
       simp -dsimp +decide (disch := omega) only [vt2, vy, vz, vze, vr, ty, en, ↓reduceIte, Nat.reduceSub, Nat.reduceAdd, Nat.reduceMul, Nat.reduceLT, Int.reduceAdd, Int.reduceSub, Int.reduceToNat, ci, vi, getO_i, vt]
       exact Vw.cut rfl
     rw [decide_eq_false c7]
     have hmre : mr = t * 5 + 400 := by omega
     have wO := wantO
     by_cases c8 : ((UInt64.ofInt (n : Int) * sp.toUInt64).toNat : Int) < 40
     . have i8 := eq_true c8
       simp -dsimp +decide (disch := omega) only [vt2, vy, vz, vze, vr, ty, en, ↓reduceIte, Nat.reduceSub, Nat.reduceAdd, Nat.reduceMul, Nat.reduceLT, Int.reduceAdd, Int.reduceSub, Int.reduceToNat, ci, vi, getO_i, vt, hr, g0, g1, g2, g3, g4, g5, g6, ez, vbg, bb2, i6, hps, i8]
       refine works_ok.det' ?_
       simp -dsimp +decide (disch := omega) only [vt2, vy, vz, vze, vr, ty, en, ↓reduceIte, Nat.reduceSub, Nat.reduceAdd, Nat.reduceMul, Nat.reduceLT, Int.reduceAdd, Int.reduceSub, Int.reduceToNat, ci, vi, getO_i, vt]
       exact Vw.cut rfl
     have i8 := eq_false c8
     simp -dsimp +decide (disch := omega) only [vt2, vy, vz, vze, vr, ty, en, ↓reduceIte, Nat.reduceSub, Nat.reduceAdd, Nat.reduceMul, Nat.reduceLT, Int.reduceAdd, Int.reduceSub, Int.reduceToNat, ci, vi, getO_i, vt, hr, g0, g1, g2, g3, g4, g5, g6, ez, vbg, bb2, i6, hps, i8]
     refine (less02_ok hmrl hO).det' ?_
     rw [decide_eq_false (show ¬ mr < O' by have := k3 (by omega); omega)]
     simp -dsimp +decide (disch := omega) only [vt2, vy, vz, vze, vr, ty, en, ↓reduceIte, Nat.reduceSub, Nat.reduceAdd, Nat.reduceMul, Nat.reduceLT, Int.reduceAdd, Int.reduceSub, Int.reduceToNat, ci, vi, getO_i, vt, hr, g0, g1, g2, g3, g4, g5, g6, ez, vbg, bb2]
     refine works_ok.det' ?_
     simp -dsimp +decide (disch := omega) only [vt2, vy, vz, vze, vr, ty, en, ↓reduceIte, Nat.reduceSub, Nat.reduceAdd, Nat.reduceMul, Nat.reduceLT, Int.reduceAdd, Int.reduceSub, Int.reduceToNat, ci, vi, getO_i, vt]
     exact Vw.cut rfl
end Go.Proofs.YtolaljbainjjaaaDoor
namespace Go.Proofs.YtolaljbainjjaaaDoor
open Go.ChangeShapes Go.WideShapes Go.ChangeAt Go.RowKit Go.E Go.Proofs.YtolaljbainjjaaaDoor.Tryd Go.Proofs.Tryd
theorem own : ownKnob prog.godebug = none := by kernel_rfl
theorem laidOut : laidOutB prog = true := by kernel_rfl
theorem gTable : prog.globalNamed "scantling/sha.table" = some 2 := by kernel_rfl
def tblT : TypeId := 132
theorem tTable : (prog.globals[2]?).map (·.type) = some tblT := by kernel_rfl
def tblZ : List Int := tbl.map fun x => (x.toNat : Int)
theorem tblD : (Rows.laid_scantling_sha_table : DataW Unit) = .agg (tblZ.map fun z => .lit (.int .u32 z)) := rfl
theorem gok {W : World} (h : laidMetH prog [("scantling/sha.table", Rows.laid_scantling_sha_table)] W) : GOK G (wholeH W) := by
 rw [MakeChecks.laidMetH_plain _ _ _ (by kernel_rfl)] at h
 obtain ⟨ps, ⟨g0, t0, cs0, f0, p0, q0, hg0, ht0, hv0, hd0, _, _⟩, _, _⟩ := h
 obtain rfl := Option.some.inj (gTable.symm.trans hg0)
 obtain rfl := Option.some.inj (tTable.symm.trans ht0)
 rw [tblD] at hd0
 have hcs := trod_lits (n := 64) Tryd.underlying132 Tryd.underlying23 (by kernel_rfl) (by kernel_rfl) hd0
 have hrd : Rd W (some ⟨2, 0, none⟩) (tblZ.map (Value.int .u32)) := by
  refine .inr ⟨_, rfl, rfl, fun k v hk => ?_⟩
  have := World.var?_cell hg0 hv0 k
  rw [<- hcs] at hk
  rw [add_plain rfl]
  simp only [Nat.zero_add]
  rw [this]
  simpa using hk
 intro g
 unfold G
 split
 . rename_i h0
   subst h0
   refine rel_vp0 (vs := tblZ.map (Value.int .u32)) ?_ (by decide) (arr_holds (wholeH_whole W) hrd)
   have := RelL.ps (Z := wholeH W) (ρ := []) (tblZ.map (Value.int .u32))
   rw [List.map_map] at this
   rw [show tbl.map w32 = tblZ.map (AV.p ∘ Value.int .u32) by rw [tblZ, List.map_map]; rfl]
   exact this
 . exact .p _
theorem door_met (os : Os) (args : Array Value) : laidMetH prog [("scantling/sha.table", Rows.laid_scantling_sha_table)] ((World.doorLaid prog 14 os).forCall (fun _ _ => 0) ⟨#[], args, []⟩).memory :=
 laidMetH_of_parts3 (fuel := 8) (laidMet_of_run' 8 (by kernel_rfl) (by kernel_rfl)) (by kernel_rfl) (by kernel_rfl)
end Go.Proofs.YtolaljbainjjaaaDoor
namespace Go.Proofs.YtolaljbainjjaaaDoor.rulesTurnsL
open Go.ChangeShapes Go.WideShapes Go.ChangeAt Go.RowKit Go.E Go.Proofs.YtolaljbainjjaaaDoor.Tryd Go.Proofs.Tryd
set_option maxRecDepth 100000 in
theorem contract (H : Type) (enc : TypeId × Value -> H) (W : World) (base : Nat) (args : Array Value) (ds gs : List (DataW H)) (before : List MemPlace)
 (hval : ∀ (j : Nat) t v, Tryd.f3.params[j]? = some t -> args[j]? = some v -> Value.okWide prog W .any base t v)
 (hW : DataW.Whole enc prog Tryd.f3.params.toList Rows.rulesTurnsSpec.vars false W args.toList ds gs before)
 (hz : (DataW.weightsEach prog (Tryd.f3.params.toList ++ Rows.rulesTurnsSpec.plain.varTypes prog) (ds ++ gs)).all (· <= reachBytes) = true)
 (hL : laidMetH prog [("scantling/sha.table", Rows.laid_scantling_sha_table)] W) :
 Calls prog 3 args W fun e W' => ∃ v, e = .returned v /\ Rows.rulesTurnsSpec.post enc prog Tryd.f3 false true false false W args v W' := by
 have hn : ds.length = 4 := by
  obtain ⟨p, q, hA, _⟩ := hW
  rw [Tryd.params3] at hA
  exact (trodAll_length hA).2
 have hg : gs = [] := by
  obtain ⟨p, q, hA, hV, _⟩ := hW
  exact (trodVars_none hV).1
 subst hg
 refine law_callsA (tys := [5, 22, 23]) 4 laidOut (by kernel_rfl) (by kernel_rfl) Tryd.underlying4 rfl ?_ hW (by kernel_rfl) (by kernel_rfl) hval hz (gok hL) ?_
 . match ds, hn with
   | [_, _, _, _], _ => rfl
 intro xs hx
 rw [Tryd.params3] at hx
 cases hx with | cons h0 hx =>
 cases hx with | cons h1 hx =>
 cases hx with | cons h2 hx =>
 cases hx with | cons h3 hx =>
 cases hx
 obtain ⟨a0, rfl⟩ := open_u8 Tryd.underlying5 _ h0
 obtain ⟨a1, rfl⟩ := open_u8 Tryd.underlying5 _ h1
 obtain ⟨a2, e2, h2l⟩ := arg_nums (fun a : UInt32 => by rw [Dat.avs]) (open_u32 Tryd.underlying23) h2 Tryd.underlying22
 obtain ⟨a3, rfl⟩ := open_u32 Tryd.underlying23 _ h3
 simp only [List.map_cons, List.map_nil, e2]
 exact rulesTurns_ok
set_option maxRecDepth 100000 in
theorem lifted (os : Os) (started : os.Started) (H : Type) (enc : TypeId × Value -> H) :
 ReturnsInHanded {} Tryd.checked os 3 .any (fun w args => (Rows.rulesTurnsSpec.pre enc prog Tryd.f3 [] false w args /\ laidMetH prog [("scantling/sha.table", Rows.laid_scantling_sha_table)] w) /\ sizedMet enc prog Tryd.f3 (OpenSpec.ofChange Rows.rulesTurnsSpec) false w args)
  (Rows.rulesTurnsSpec.post enc prog Tryd.f3 false true false false) := by
 refine returnsInHanded_of_change_and (C := Tryd.checked) (X := fun w _ => laidMetH prog [("scantling/sha.table", Rows.laid_scantling_sha_table)] w) (fun _ _ _ hh h => h.of_heap hh) own started (by kernel_rfl) func3
  (ChangeSpec.witness_shaped (enc := enc) (C := Tryd.checked) (os := os) (X := fun w _ => laidMetH prog [("scantling/sha.table", Rows.laid_scantling_sha_table)] w) false (World.doorLaid prog 14 os) #[.int .u8 0, .int .u8 0, .slice none 0 0, .int .u32 0] 8 rfl (World.shaped_of_RefB (by kernel_rfl) (by kernel_rfl)) (by kernel_rfl) (by kernel_rfl) (by kernel_rfl) (door_met os _)) ?_
 intro W base args ds gs before hval hW _ hz hL _
 exact contract H enc W base args ds gs before hval hW hz hL
theorem said : Rows.RulesTurnsSaid :=
 OpenClaim.holds_of_wide 3 Tryd.f3 rfl rfl rfl rfl rfl rfl rfl ⟨rfl, rfl, rfl, rfl, rfl⟩ rfl rfl rfl rfl rfl (by kernel_rfl) func3 (by kernel_rfl)
  (of_decide_eq_true (by kernel_rfl)) (by unfold Func.isWrapper; first | (rw [if_pos (by decide +kernel)]; kernel_rfl) | (rw [if_neg (by decide +kernel)]; exact ⟨rfl, rfl⟩))
  (fun os started H enc _ => lifted os started H enc)
theorem proved : Rows.RulesTurnsCardSaid :=
 Claim7.holds_tied_plain_at .later [] [.data] true Rows.rulesTurnsCard.stood.harness false
  said (fun _ h => by cases h) (by kernel_rfl) (fun _ h => by cases h) rulesTurns_row_tie rfl ⟨rfl, rfl⟩ (by kernel_rfl) rfl
  (fun f fn hf hfn => by
   obtain rfl : f = 3 := Option.some.inj ((show prog.funcNamed "scantling/scantlinglaw13.RulesTurns" = some 3 by kernel_rfl).symm.trans hf) |>.symm
   obtain rfl : fn = Tryd.f3 := (Option.some.inj (func3.symm.trans hfn)).symm
   exact ⟨by kernel_rfl, fun j t ht => by
    have hm : t ∈ Tryd.f3.params.toList := by simpa using Array.mem_of_getElem? ht
    have hall : (Tryd.f3.params.toList.all fun u => !prog.wantsStandIn u) = true := by kernel_rfl
    exact (show prog.wantsStandIn t = false by simpa using List.all_eq_true.1 hall t hm)⟩)
  (by kernel_rfl)
end Go.Proofs.YtolaljbainjjaaaDoor.rulesTurnsL
