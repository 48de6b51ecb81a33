/-
  Part 4 of the proof: no statement of its own. No condition but those in each theorem.
-/
import Derived.Test.YtmcbdlefakjpoaaGreatDoorPk3
set_option linter.unusedSimpArgs false
set_option linter.unusedVariables false
set_option linter.unusedSectionVars false
set_option maxRecDepth 8000
set_option maxHeartbeats 4000000
namespace Go.Proofs.YtmcbdlefakjpoaaGreatDoor
open Go.E Go.Proofs.YtmcbdlefakjpoaaGreatDoor.Tryz Go.Proofs.Tryz
def lo8 (n : UInt64) (k : Nat) : List UInt8 := (List.range k).map fun i => (u64_shr n (8 * i)).toUInt8
theorem lo8_len (n : UInt64) (k : Nat) : (lo8 n k).length = k := by simp [lo8]
theorem lo8_next (n : UInt64) (k : Nat) : lo8 n (k + 1) = lo8 n k ++ [(u64_shr n (8 * k)).toUInt8] := by simp [lo8, List.range_succ]
theorem low09_ok {T : Tbl} {n : UInt64} {k : Nat} (hk : k <= 8) : CallA prog G 85 [w64 n, wint (k : Int)] T fun v T' es => v = .sl T.length 0 k /\ T' = T ++ [.buf 5 1 ((lo8 n k).map by8)] /\ es = [] := by
 refine CallA.wfs fun wf => ?_
 have wt := wf.t
 refine CallA.eV 7 func85 ntmps85 results85 ?_
 simp -dsimp +decide only [vq, ↓reduceIte, Nat.reduceSub, Nat.reduceAdd]
 refine SemA.adopt 5 5 1 (by decide) rfl ?_
 simp -dsimp +decide only [va]
 refine SemA.loopK (T.length + 1) (fun i : Nat => [(0, w64 n), (1, wint (k : Int)), (5, .sl T.length 0 i), (6, wint (i : Int))]) (fun i => T ++ [.buf 5 1 ((lo8 n i).map by8)]) (fun i => i <= k) (fun i => k - i) 0 [] 0 (fun _ : Unit => [(5, .sl T.length 0 k)]) (fun _ => T ++ [.buf 5 1 ((lo8 n k).map by8)]) (fun _ => True) (by omega) (by omega) (by (simp -dsimp +decide (disch := omega) only [vq, Nat.reduceAdd, ci]); first | rfl | done) rfl (by simp) ?_ ?_
 . rintro i g hi
   have hil := lo8_len n i
   refine SemA.o ?_
   simp -dsimp +decide (disch := omega) only [vq, ↓reduceIte, Nat.reduceAdd]
   refine CondP.dec (fun h => ?_) (fun h => ?_)
   . simp -dsimp +decide (disch := omega) only [vt2, vze, vr, ty, ↓reduceIte, Nat.reduceAdd, vi, vt, wt, hil]
     have e8 : (UInt64.ofInt 8 * UInt64.ofInt (i : Int)).toNat = 8 * i := by
      rw [UInt64.toNat_mul, ofInt_lt (by omega), show (UInt64.ofInt 8).toNat = 8 from rfl, Nat.mod_eq_of_lt (by omega)]
     exact ⟨⟨by omega, by omega⟩, i + 1, ⟨by omega, by omega⟩, ⟨rfl, rfl⟩, by rw [lo8_next, e8]⟩
   . have e : i = k := by omega
     subst e
     simp -dsimp +decide (disch := omega) only [vt2, vze, vq, ↓reduceIte, Nat.reduceAdd, vt, wt]
     exact ⟨(), trivial⟩
 . rintro _ g tmp -
   simp -dsimp +decide (disch := omega) only [vp0, ↓reduceIte, Nat.reduceAdd]
   exact Vw.done ⟨rfl, rfl, rfl⟩
theorem low09N {T : Tbl} {n k : Nat} (hn : n < 18446744073709551616) (hk : k <= 8) : CallA prog G 85 [.p (.int .u64 (n : Int)), .p (.int .i64 (k : Int))] T fun v T' es => v = .sl T.length 0 k /\ T' = T ++ [.buf 5 1 ((lo8 (UInt64.ofNat n) k).map by8)] /\ es = [] := by
 have := low09_ok (T := T) (n := UInt64.ofNat n) (k := k) hk
 rwa [w64, UInt64.toNat_ofNat', Nat.mod_eq_of_lt (by omega)] at this
def cntB (n : Nat) : List UInt8 := if n < 253 then [UInt8.ofNat n] else if n < 65536 then 253 :: lo8 (UInt64.ofNat n) 2 else if n < 4294967296 then 254 :: lo8 (UInt64.ofNat n) 4 else 255 :: lo8 (UInt64.ofNat n) 8
theorem cntB_le (n : Nat) : (cntB n).length <= 9 := by
 unfold cntB; repeat' split
 all_goals simp [lo8_len]
theorem count09_ok {T : Tbl} {n : Nat} (hn : n <= 1000000000) : CallA prog G 113 [wint (n : Int)] T fun v T' es => v = .sl T.length 0 (cntB n).length /\ T' = T ++ [.buf 5 1 ((cntB n).map by8)] /\ es = [] := by
 refine CallA.wfs fun wf => ?_
 have wt := wf.t
 have hu : (UInt64.ofInt (n : Int)).toNat = n := ofInt_lt (by omega)
 have hl := fun k => lo8_len (UInt64.ofNat n) k
 refine CallA.eV 4 func113 ntmps113 results113 ?_
 simp -dsimp +decide only [vr, ty, ↓reduceIte, Nat.reduceSub]
 simp -dsimp +decide (disch := omega) only [hu]
 refine CondP.dec (fun h1 => ?_) (fun h1 => ?_)
 . rw [show cntB n = [UInt8.ofNat n] by rw [cntB, if_pos (by omega)]]
   have e8 : (UInt8.ofInt (n : Int)).toNat = (UInt8.ofNat n).toNat := by rw [UInt8.ofInt]; simp; omega
   simp -dsimp +decide (disch := omega) only [vp0, vu, ty, ↓reduceIte, vt, hu, e8]
   exact Vw.done ⟨rfl, rfl, rfl⟩
 . simp -dsimp +decide (disch := omega) only [vp0, ↓reduceIte, hu]
   refine CondP.dec (fun h2 => ?_) (fun h2 => ?_)
   . rw [show cntB n = 253 :: lo8 (UInt64.ofNat n) 2 by rw [cntB, if_neg (by omega), if_pos (by omega)]]
     simp -dsimp +decide (disch := omega) only [vp0, ty, en, ↓reduceIte, vt]
     refine (low09N (k := 2) (by omega) (by omega)).det' ?_
     simp -dsimp +decide (disch := omega) only [vq, ty, ↓reduceIte, Nat.reduceAdd, vt, wt, hl]
     rw [List.drop_zero, List.take_of_length_le (by rw [hl]; exact Nat.le_refl _)]
     refine Vw.cutN (T.length + 1) (by omega) ?_
     simp -dsimp +decide only [vq, ↓reduceIte, vt, wt]
     exact Vw.done ⟨by rw [List.length_cons, hl], rfl, rfl⟩
   . simp -dsimp +decide (disch := omega) only [vp0, ↓reduceIte]
     refine CondP.dec (fun h3 => ?_) (fun h3 => ?_)
     . rw [show cntB n = 254 :: lo8 (UInt64.ofNat n) 4 by rw [cntB, if_neg (by omega), if_neg (by omega), if_pos (by omega)]]
       simp -dsimp +decide (disch := omega) only [vp0, ty, en, ↓reduceIte, vt]
       refine (low09N (k := 4) (by omega) (by omega)).det' ?_
       simp -dsimp +decide (disch := omega) only [vq, ty, ↓reduceIte, Nat.reduceAdd, vt, wt, hl]
       rw [List.drop_zero, List.take_of_length_le (by rw [hl]; exact Nat.le_refl _)]
       refine Vw.cutN (T.length + 1) (by omega) ?_
       simp -dsimp +decide only [vq, ↓reduceIte, vt, wt]
       exact Vw.done ⟨by rw [List.length_cons, hl], rfl, rfl⟩
     . exfalso; omega
def itemB (b : List UInt8) : List UInt8 := cntB b.length ++ b
theorem item09_ok {T : Tbl} {a : AV} {b : List UInt8} (hb : Bs T a b) (hn : b.length <= 1000000000) : CallA prog G 115 [a] T fun v T' es => v = .sl T.length 0 (itemB b).length /\ T' = T ++ [.buf 5 1 ((itemB b).map by8)] /\ es = [] := by
 refine CallA.wfs fun wf => ?_
 have wt := wf.t
 have hsr := Sl.rules hb (by decide)
 have hc := cntB_le b.length
 refine CallA.eV 3 func115 ntmps115 results115 ?_
 simp -dsimp +decide only [vp0, ty, ↓reduceIte, Nat.reduceSub]
 simp -dsimp +decide (disch := omega) only [va, en, ↓reduceIte, hsr]
 refine (count09_ok hn).det' ?_
 simp -dsimp +decide (disch := omega) only [vq, ty, ↓reduceIte, wt, hsr]
 exact ⟨⟨by omega, by omega⟩, Vw.done ⟨by rw [itemB, List.length_append], rfl, rfl⟩⟩
theorem CallA.vs8 {f : FuncId} {args : List AV} {T : Tbl} {l : List UInt8} (h : CallA prog G f args T fun v T' es => v = .sl T.length 0 l.length /\ T' = T ++ [.buf 5 1 (l.map by8)] /\ es = []) :
 CallA prog G f args T fun v T' es => v = .vs (l.map by8) l.length /\ T' = T /\ es = [] := by
 refine CallA.wfs fun wf => ?_
 have wp := wf.p
 refine h.andThen ?_
 rintro v T' es ⟨rfl, rfl, rfl⟩
 refine Vw.pub T.length (o := .buf 5 1 (l.map by8)) (gn0 T _ []) rfl (clean8 _) ?_
 simp -dsimp +decide only [va, vl, ↓reduceIte, wp]
 exact Vw.cut ⟨rfl, rfl, rfl⟩
theorem low09V {T : Tbl} {n : UInt64} {k : Nat} (hk : k <= 8) : CallA prog G 85 [w64 n, wint (k : Int)] T fun v T' es => v = .vs ((lo8 n k).map by8) k /\ T' = T /\ es = [] := by
 have h : CallA prog G 85 [w64 n, wint (k : Int)] T fun v T' es => v = .sl T.length 0 (lo8 n k).length /\ T' = T ++ [.buf 5 1 ((lo8 n k).map by8)] /\ es = [] :=
  (low09_ok (T := T) (n := n) hk).mono fun v T' es ⟨h1, h2, h3⟩ => ⟨by rw [h1, lo8_len], h2, h3⟩
 have := CallA.vs8 h
 rwa [lo8_len] at this
theorem item09V {T : Tbl} {a : AV} {b : List UInt8} (hb : Bs T a b) (hn : b.length <= 1000000000) : CallA prog G 115 [a] T fun v T' es => v = .vs ((itemB b).map by8) (itemB b).length /\ T' = T /\ es = [] := CallA.vs8 (item09_ok hb hn)
theorem count09V {T : Tbl} {n : Nat} (hn : n <= 1000000000) : CallA prog G 113 [wint (n : Int)] T fun v T' es => v = .vs ((cntB n).map by8) (cntB n).length /\ T' = T /\ es = [] := CallA.vs8 (count09_ok hn)
structure By where
 a : AV
 b : List UInt8
def By.Ok (x : By) : Prop := x.a = .vs (x.b.map by8) x.b.length ∨ (x.a = .p (.slice none 0 0) /\ x.b = [])
theorem By.Ok.bs {x : By} (h : x.Ok) (T : Tbl) : Bs T x.a x.b := by
 rcases h with h | ⟨h, h2⟩
 . rw [h]; exact Bs.vs _
 . rw [h, h2]; exact Bs.nil
def Lst {α : Type} (sz : Nat) (f : α -> List AV) (a : AV) (xs : List α) : Prop := (∀ x ∈ xs, (f x).length = sz) /\ (a = .vs (xs.flatMap f) xs.length ∨ (a = .p (.slice none 0 0) /\ xs = []))
theorem Lst.es {α : Type} {sz : Nat} {f : α -> List AV} {a : AV} {xs : List α} (h : Lst sz f a xs) (T : Tbl) : Es T sz f a xs := by
 obtain ⟨hw, h | ⟨h, h2⟩⟩ := h
 . rw [h]; exact Es.vs hw
 . rw [h, h2]; exact Es.nil
structure Kept1 (a : AV) : Prop where
 wo : ∀ q, a.wo q = a
 pub : ∀ i cs, a.pub i cs = a
 one : a.one = true
 cl : a.Clean
theorem Kept1.vs (cs : List AV) (n : Nat) : Kept1 (.vs cs n) := ⟨fun q => by rw [AV.wo], fun i l => by rw [AV.pub], rfl, .vs _ _⟩
theorem Kept1.nil : Kept1 (.p (.slice none 0 0)) := ⟨fun q => by rw [AV.wo], fun i l => by rw [AV.pub], rfl, .p _⟩
theorem By.Ok.k {x : By} (h : x.Ok) : Kept1 x.a := by
 rcases h with h | ⟨h, h2⟩
 . rw [h]; exact Kept1.vs _ _
 . rw [h]; exact Kept1.nil
theorem Lst.k {α : Type} {sz : Nat} {f : α -> List AV} {a : AV} {xs : List α} (h : Lst sz f a xs) : Kept1 a := by
 obtain ⟨hw, h | ⟨h, h2⟩⟩ := h
 . rw [h]; exact Kept1.vs _ _
 . rw [h]; exact Kept1.nil
structure TIn where
 tx : List UInt8
 n : UInt32
 sc : By
 seq : UInt32
 wa : AV
 wit : List By
def TIn.cs (x : TIn) : List AV := x.tx.map by8 ++ [w32 x.n, x.sc.a, w32 x.seq, x.wa]
structure TIn.Ok (x : TIn) : Prop where
 t : x.tx.length = 32
 s : x.sc.Ok
 l : x.sc.b.length <= 1048576
 w : Lst 1 (fun y : By => [y.a]) x.wa x.wit
 y : ∀ y ∈ x.wit, y.Ok
 wl : x.wit.length <= 1048576
structure TOut where
 value : UInt64
 sc : By
def TOut.cs (x : TOut) : List AV := [w64 x.value, x.sc.a]
structure TOut.Ok (x : TOut) : Prop where
 s : x.sc.Ok
 l : x.sc.b.length <= 1048576
structure TTx where
 v : UInt32
 ia : AV
 ins : List TIn
 oa : AV
 outs : List TOut
 lock : UInt32
def TTx.cs (x : TTx) : List AV := [w32 x.v, x.ia, x.oa, w32 x.lock]
structure TTx.Ok (x : TTx) : Prop where
 i : Lst 36 TIn.cs x.ia x.ins
 o : Lst 2 TOut.cs x.oa x.outs
 il : x.ins.length <= 100000
 ol : x.outs.length <= 100000
 ii : ∀ y ∈ x.ins, y.Ok
 oo : ∀ y ∈ x.outs, y.Ok
theorem pb8 (i : Nat) (cs : List AV) (y : List UInt8) : (List.map by8 y).map (AV.pub i cs) = List.map by8 y := by
 rw [List.map_map]
 refine List.map_congr_left fun x _ => ?_
 show AV.pub i cs (.p _) = _
 rw [AV.pub]; rfl
theorem TIn.rules {x : TIn} (ok : x.Ok) : x.cs.length = 36 /\ List.take 32 (List.drop 0 x.cs) = x.tx.map by8 /\ List.take 32 x.cs = x.tx.map by8 /\ x.cs[32]? = some (w32 x.n) /\ x.cs[33]? = some x.sc.a /\ x.cs[34]? = some (w32 x.seq) /\ x.cs[35]? = some x.wa /\
 List.take 36 (List.drop 0 x.cs) = x.cs /\ List.take 36 x.cs = x.cs /\ (∀ q, x.cs.map (AV.wo q) = x.cs) /\ (∀ i cs, x.cs.map (AV.pub i cs) = x.cs) /\ ones x.cs = true := by
 have hp : (x.tx.map by8).length = 32 := by simp [ok.t]
 have hl : x.cs.length = 36 := by simp [TIn.cs, ok.t]
 have hg : ∀ k, x.cs[32 + k]? = [w32 x.n, x.sc.a, w32 x.seq, x.wa][k]? := fun k => by rw [TIn.cs, List.getElem?_append_right (by omega), hp, show 32 + k - 32 = k by omega]
 have ht : List.take 32 x.cs = x.tx.map by8 := by rw [TIn.cs, <- hp, List.take_left]
 have k1 := ok.s.k
 have k2 := ok.w.k
 refine ⟨hl, by rw [List.drop_zero]; exact ht, ht, hg 0, hg 1, hg 2, hg 3, by rw [List.drop_zero, List.take_of_length_le (by omega)], List.take_of_length_le (by omega), fun q => ?_, fun i cs => ?_, ?_⟩
 . rw [TIn.cs, List.map_append, wb8]; simp only [List.map_cons, List.map_nil, k1.wo, k2.wo, w32, AV.wo]
 . rw [TIn.cs, List.map_append, pb8]; simp only [List.map_cons, List.map_nil, k1.pub, k2.pub, w32, AV.pub]
 . rw [TIn.cs, ones, List.all_append]
   have := vh.2.2.2.2.2 x.tx
   rw [ones] at this
   rw [this]
   simp only [List.all_cons, List.all_nil, k1.one, k2.one, Bool.and_true, Bool.true_and]
   rfl
def TIn.b (x : TIn) : List UInt8 := x.tx ++ lo8 x.n.toUInt64 4 ++ itemB x.sc.b ++ lo8 x.seq.toUInt64 4
theorem itemB_le (b : List UInt8) : (itemB b).length <= b.length + 9 := by
 have := cntB_le b.length
 rw [itemB, List.length_append]; omega
theorem input09_ok {T : Tbl} {x : TIn} (ok : x.Ok) : CallA prog G 114 [.ag x.cs] T fun v T' es => v = .vs (x.b.map by8) x.b.length /\ T' = T /\ es = [] := by
 refine CallA.wfs fun wf => ?_
 have wt := wf.t
 have wp := wf.p
 have hr := TIn.rules ok
 have hp := ok.t
 have g0 := fun l => gn0 T (.cells 68 x.cs) l
 have hl := fun n k => lo8_len n k
 have hil := itemB_le x.sc.b
 have hsl := ok.l
 refine CallA.eV 4 func114 ntmps114 results114 ?_
 simp -dsimp +decide only [vp0, ty, ↓reduceIte, Nat.reduceSub]
 simp -dsimp +decide (disch := omega) only [vr, ty, en, ↓reduceIte, vt, wt, hr, g0, vh]
 have h36 : (x.tx ++ lo8 x.n.toUInt64 4).length = 36 := by rw [List.length_append, hp, hl]
 have h37 : (x.tx ++ lo8 x.n.toUInt64 4 ++ itemB x.sc.b).length = 36 + (itemB x.sc.b).length := by rw [List.length_append, h36]
 have h38 : x.b.length = 36 + ((itemB x.sc.b).length + 4) := by rw [TIn.b, List.length_append, h37, hl]; omega
 refine (low09V (k := 4) (by omega)).det' ?_
 simp -dsimp +decide (disch := omega) only [vq, ty, en, ↓reduceIte, Nat.reduceAdd, wt, hr, g0, hp, vh, hl]
 refine (item09V (ok.s.bs _) (by omega)).det' ?_
 simp -dsimp +decide (disch := omega) only [vr, ty, en, ↓reduceIte, wt, hr, g0, vh, h36]
 refine ⟨⟨by omega, by omega⟩, (low09V (k := 4) (by omega)).det' ?_⟩
 simp -dsimp +decide (disch := omega) only [vq, ty, ↓reduceIte, wt, hr, vh, hl, h37]
 refine ⟨⟨by omega, by omega⟩, ?_⟩
 refine Vw.pub (T.length + 1) (o := .buf 5 1 (x.b.map by8)) (gn1 T _ _ _) rfl (clean8 _) ?_
 simp -dsimp +decide only [va, vl, ↓reduceIte, wp]
 rw [<- h38]
 exact Vw.cut ⟨rfl, rfl, rfl⟩
theorem flat_le {α β : Type} {f : α -> List β} {c : Nat} : ∀ {l : List α}, (∀ x ∈ l, (f x).length <= c) -> (l.flatMap f).length <= l.length * c
 | [], _ => by simp
 | x :: l, h => by
   have := flat_le (l := l) fun y hy => h y (by simp [hy])
   have h2 := h x (by simp)
   rw [List.flatMap_cons, List.length_append, List.length_cons, Nat.succ_mul]; omega
def TOut.b (x : TOut) : List UInt8 := lo8 x.value 8 ++ itemB x.sc.b
def TTx.body (t : TTx) : List UInt8 := cntB t.ins.length ++ t.ins.flatMap TIn.b ++ cntB t.outs.length ++ t.outs.flatMap TOut.b
def TTx.bare (t : TTx) : List UInt8 := lo8 t.v.toUInt64 4 ++ t.body ++ lo8 t.lock.toUInt64 4
def TTx.id (t : TTx) : List UInt8 := twice t.bare
theorem TTx.id_len (t : TTx) : t.id.length = 32 := twice_len _
theorem TIn.b_le {x : TIn} (ok : x.Ok) : x.b.length <= 2000000 := by
 have := itemB_le x.sc.b
 have := ok.l
 simp only [TIn.b, List.length_append, lo8_len, ok.t]; omega
theorem TOut.b_le {x : TOut} (ok : x.Ok) : x.b.length <= 2000000 := by
 have := itemB_le x.sc.b
 have := ok.l
 simp only [TOut.b, List.length_append, lo8_len]; omega
theorem TTx.rules {x : TTx} (ok : x.Ok) : x.cs.length = 4 /\ x.cs[0]? = some (w32 x.v) /\ x.cs[1]? = some x.ia /\ x.cs[2]? = some x.oa /\ x.cs[3]? = some (w32 x.lock) /\
 List.take 4 (List.drop 0 x.cs) = x.cs /\ List.take 4 x.cs = x.cs /\ (∀ q, x.cs.map (AV.wo q) = x.cs) /\ (∀ i cs, x.cs.map (AV.pub i cs) = x.cs) /\ ones x.cs = true := by
 have k1 := ok.i.k
 have k2 := ok.o.k
 refine ⟨rfl, rfl, rfl, rfl, rfl, rfl, rfl, fun q => ?_, fun i cs => ?_, ?_⟩
 . simp only [TTx.cs, List.map_cons, List.map_nil, k1.wo, k2.wo, w32, AV.wo]
 . simp only [TTx.cs, List.map_cons, List.map_nil, k1.pub, k2.pub, w32, AV.pub]
 . simp only [TTx.cs, ones, List.all_cons, List.all_nil, k1.one, k2.one, Bool.and_true, Bool.true_and]
   rfl
theorem body09_ok {T : Tbl} {t : TTx} (ok : t.Ok) : CallA prog G 86 [.ag t.cs] T fun v T' es => v = .vs (t.body.map by8) t.body.length /\ T' = T /\ es = [] := by
 refine CallA.wfs fun wf => ?_
 have wt := wf.t
 have wp := wf.p
 have hr := TTx.rules ok
 have g0 := fun l => gn0 T (.cells 63 t.cs) l
 have hbi := ok.i.es T
 have hbo := ok.o.es T
 have hsi := Sl.rules hbi.sl (by decide)
 have hso := Sl.rules hbo.sl (by decide)
 have hldi := hbi.ld (P := prog) (t := 68) (by (simp -dsimp +decide only [])) (by (simp -dsimp +decide only [])) (by decide)
 have hil := ok.il
 have hol := ok.ol
 have hcl := cntB_le t.ins.length
 have hcl2 := cntB_le t.outs.length
 have hfl : ∀ k, ((t.ins.take k).flatMap TIn.b).length <= 2000000000000 := fun k => by
  have h1 : ((t.ins.take k).flatMap TIn.b).length <= (t.ins.take k).length * 2000000 := flat_le fun x hx => TIn.b_le (ok.ii x (List.mem_of_mem_take hx))
  have h2 : (t.ins.take k).length * 2000000 <= 1000000 * 2000000 := Nat.mul_le_mul_right _ (by rw [List.length_take]; omega)
  omega
 have hfl2 : ∀ k, ((t.outs.take k).flatMap TOut.b).length <= 2000000000000 := fun k => by
  have h1 : ((t.outs.take k).flatMap TOut.b).length <= (t.outs.take k).length * 2000000 := flat_le fun x hx => TOut.b_le (ok.oo x (List.mem_of_mem_take hx))
  have h2 : (t.outs.take k).length * 2000000 <= 1000000 * 2000000 := Nat.mul_le_mul_right _ (by rw [List.length_take]; omega)
  omega
 refine CallA.eV 6 func86 ntmps86 results86 ?_
 simp -dsimp +decide only [vp0, ty, ↓reduceIte, Nat.reduceSub]
 simp -dsimp +decide (disch := omega) only [va, ty, en, ↓reduceIte, hr, hsi]
 refine (count09_ok (by omega)).det' ?_
 simp -dsimp +decide (disch := omega) only [vp0, ↓reduceIte]
 refine SemA.loopK (T.length + 2) (fun k : Nat => [(1, .ptr T.length 0), (3, .sl (T.length + 1) 0 (cntB t.ins.length ++ (t.ins.take k).flatMap TIn.b).length), (4, wint (k : Int))]) (fun k => T ++ [.cells 63 t.cs, .buf 5 1 ((cntB t.ins.length ++ (t.ins.take k).flatMap TIn.b).map by8)]) (fun k => k <= t.ins.length) (fun k => t.ins.length - k) 0 [] 0 (fun _ : Unit => [(1, .ptr T.length 0), (3, .sl (T.length + 1) 0 (cntB t.ins.length ++ t.ins.flatMap TIn.b).length)]) (fun _ => T ++ [.cells 63 t.cs, .buf 5 1 ((cntB t.ins.length ++ t.ins.flatMap TIn.b).map by8)]) (fun _ => True) (by omega) (by omega) (by (simp -dsimp +decide (disch := omega) only [vq, Nat.reduceAdd, ci]); simp) (by simp) (by simp) ?_ ?_
 . rintro k g hk
   refine SemA.o ?_
   simp -dsimp +decide (disch := omega) only [vq, ty, ↓reduceIte, Nat.reduceAdd, hr, g0, hsi]
   refine CondP.dec (fun h => ?_) (fun h => ?_)
   . obtain ⟨x, hx⟩ : ∃ x, t.ins[k]? = some x := ⟨t.ins[k]'(by omega), by simp⟩
     have hxo := ok.ii x (List.mem_of_getElem? hx)
     have hf := hfl k
     simp -dsimp +decide (disch := omega) only [vp0, ty, en, ↓reduceIte, hr, g0, hsi, hldi, hx]
     refine ⟨⟨by omega, by omega⟩, (input09_ok hxo).det' ?_⟩
     have hxl := TIn.b_le hxo
     simp -dsimp +decide (disch := omega) only [vt2, vze, vq, ty, ↓reduceIte, Nat.reduceAdd, vi, vt, hr, wt, hsi]
     have hal : (cntB t.ins.length ++ (t.ins.take k).flatMap TIn.b).length = (cntB t.ins.length).length + ((t.ins.take k).flatMap TIn.b).length := List.length_append
     have hstep : (t.ins.take (k + 1)).flatMap TIn.b = (t.ins.take k).flatMap TIn.b ++ x.b := by rw [List.take_add_one, hx, List.flatMap_append]; simp
     refine ⟨⟨by omega, by omega⟩, k + 1, ⟨by omega, by omega⟩, ⟨?_, rfl⟩, ?_⟩
     . rw [hstep, <- List.append_assoc, List.length_append (bs := x.b)]
     . rw [hstep, <- List.append_assoc]
   . have e : k = t.ins.length := by omega
     subst e
     rw [List.take_length]
     simp -dsimp +decide (disch := omega) only [vt2, vze, vq, ↓reduceIte, Nat.reduceAdd, vt, wt, hr]
     exact ⟨(), trivial⟩
 . rintro _ g tmp -
   simp -dsimp +decide (disch := omega) only [vp0, ty, en, ↓reduceIte, Nat.reduceAdd, hr, g0, hso]
   refine (count09V (by omega)).det' ?_
   generalize hA : cntB t.ins.length ++ t.ins.flatMap TIn.b = A
   have hAl : A.length <= 3000000000000 := by
    have := hfl t.ins.length
    rw [List.take_length] at this
    rw [<- hA, List.length_append]; omega
   generalize hC : cntB t.outs.length = C
   rw [hC] at hcl2
   simp -dsimp +decide (disch := omega) only [vq, ty, ↓reduceIte, wt, hr, hso]
   refine ⟨⟨by omega, by omega⟩, ?_⟩
   have hl64 := Sl.loads hbo.sl (P := prog) (t := 69) (by (simp -dsimp +decide only []))
   have hlsl := Sl.loads hbo.sl (P := prog) (t := 53) (by (simp -dsimp +decide only []))
   refine SemA.loopK (T.length + 2) (fun k : Nat => [(1, .ptr T.length 0), (3, .sl (T.length + 1) 0 (A ++ C ++ (t.outs.take k).flatMap TOut.b).length), (5, wint (k : Int))]) (fun k => T ++ [.cells 63 t.cs, .buf 5 1 ((A ++ C ++ (t.outs.take k).flatMap TOut.b).map by8)]) (fun k => k <= t.outs.length) (fun k => t.outs.length - k) 0 [] 2 (fun _ : Unit => [(3, .sl (T.length + 1) 0 t.body.length)]) (fun _ => T ++ [.cells 63 t.cs, .buf 5 1 (t.body.map by8)]) (fun _ => True) (by omega) (by omega) (by (simp -dsimp +decide (disch := omega) only [vq, Nat.reduceAdd, ci]); simp) (by simp) (by simp) ?_ ?_
   . rintro k g hk
     refine SemA.o ?_
     simp -dsimp +decide (disch := omega) only [vq, ty, ↓reduceIte, Nat.reduceAdd, hr, g0, hso]
     refine CondP.dec (fun h => ?_) (fun h => ?_)
     . obtain ⟨x, hx⟩ : ∃ x, t.outs[k]? = some x := ⟨t.outs[k]'(by omega), by simp⟩
       have hxo := ok.oo x (List.mem_of_getElem? hx)
       have hne : 0 < t.outs.length := by omega
       have hfd := fun j k (K : AV -> Prop) => Sl.fld (K := K) hbo.sl hne j k
       have hc0 : (t.outs.flatMap TOut.cs)[k * 2]? = some (w64 x.value) := by
        have := flat_cell (j := 0) hbo.wd hx (by decide)
        rw [Nat.add_zero] at this
        exact this
       have hc1 : (t.outs.flatMap TOut.cs)[k * 2 + 1]? = some x.sc.a := flat_cell hbo.wd hx (by decide)
       have hl8 := lo8_len x.value 8
       have hxl := hxo.l
       have hil2 := itemB_le x.sc.b
       have hf := hfl2 k
       have hal : (A ++ C ++ (t.outs.take k).flatMap TOut.b).length = A.length + C.length + ((t.outs.take k).flatMap TOut.b).length := by rw [List.length_append, List.length_append]
       simp -dsimp +decide (disch := omega) only [vq, ty, en, ↓reduceIte, hr, g0, hso, hfd, hl64, hc0]
       have hstep : A ++ C ++ (t.outs.take (k + 1)).flatMap TOut.b = A ++ C ++ (t.outs.take k).flatMap TOut.b ++ lo8 x.value 8 ++ itemB x.sc.b := by
        rw [List.take_add_one, hx, List.flatMap_append, List.append_assoc (A ++ C ++ _), <- List.append_assoc (A ++ C)]
        simp [TOut.b]
       refine ⟨⟨by omega, by omega⟩, (low09V (k := 8) (by omega)).det' ?_⟩
       revert hal hstep
       generalize A ++ C ++ (t.outs.take k).flatMap TOut.b = B
       intro hal hstep
       have hB : (B ++ lo8 x.value 8).length = B.length + 8 := by rw [List.length_append, hl8]
       have hB2 : (B ++ lo8 x.value 8 ++ itemB x.sc.b).length = B.length + 8 + (itemB x.sc.b).length := by rw [List.length_append, hB]
       simp -dsimp +decide (disch := omega) only [vq, ty, en, ↓reduceIte, wt, hr, g0, hso, hfd, hlsl, hc1, hl8]
       refine ⟨⟨by omega, by omega⟩, ⟨by omega, by omega⟩, (item09V (hxo.s.bs _) (by omega)).det' ?_⟩
       simp -dsimp +decide (disch := omega) only [vt2, vze, vq, ty, ↓reduceIte, Nat.reduceAdd, vi, vt, wt, hr, hso, hB]
       refine ⟨⟨by omega, by omega⟩, k + 1, ⟨by omega, by omega⟩, ⟨?_, rfl⟩, ?_⟩
       . rw [hstep, hB2, Nat.add_assoc]
       . rw [hstep]
     . have e : k = t.outs.length := by omega
       subst e
       have hb : A ++ C ++ t.outs.flatMap TOut.b = t.body := by rw [TTx.body, <- hA, <- hC]
       rw [List.take_length, hb]
       simp -dsimp +decide (disch := omega) only [vt2, vze, vq, ↓reduceIte, Nat.reduceAdd, vt, wt, hr]
       exact ⟨(), trivial⟩
   . rintro _ g tmp -
     simp -dsimp +decide (disch := omega) only [vp0, ↓reduceIte, Nat.reduceAdd]
     refine Vw.pub (T.length + 1) (o := .buf 5 1 (t.body.map by8)) (gn1 T _ _ _) rfl (clean8 _) ?_
     simp -dsimp +decide only [va, vl, ↓reduceIte, wp]
     exact Vw.cut ⟨rfl, rfl, rfl⟩
theorem TTx.body_le {t : TTx} (ok : t.Ok) : t.body.length <= 500000000000 := by
 have hcl := cntB_le t.ins.length
 have hcl2 := cntB_le t.outs.length
 have h1 : (t.ins.flatMap TIn.b).length <= t.ins.length * 2000000 := flat_le fun x hx => TIn.b_le (ok.ii x hx)
 have h3 : (t.outs.flatMap TOut.b).length <= t.outs.length * 2000000 := flat_le fun x hx => TOut.b_le (ok.oo x hx)
 have := ok.il
 have := ok.ol
 simp only [TTx.body, List.length_append]
 omega
theorem bare09_ok {T : Tbl} {t : TTx} (ok : t.Ok) : CallA prog G 70 [.ag t.cs] T fun v T' es => v = .vs (t.bare.map by8) t.bare.length /\ T' = T /\ es = [] := by
 refine CallA.wfs fun wf => ?_
 have wt := wf.t
 have wp := wf.p
 have hr := TTx.rules ok
 have g0 := fun l => gn0 T (.cells 63 t.cs) l
 have hbl := TTx.body_le ok
 have hl8 := fun n => lo8_len n 4
 have h4 : (lo8 t.v.toUInt64 4 ++ t.body).length = 4 + t.body.length := by rw [List.length_append, hl8]
 have h5 : t.bare.length = 4 + (t.body.length + 4) := by rw [TTx.bare, List.length_append, h4, hl8, Nat.add_assoc]
 refine CallA.eV 4 func70 ntmps70 results70 ?_
 simp -dsimp +decide only [vp0, ↓reduceIte, Nat.reduceSub]
 have kk : (∀ k j : Nat, decide (T.length + k < T.length + j) = decide (k < j)) /\ (∀ j : Nat, decide (T.length < T.length + j) = decide (0 < j)) := ⟨fun k j => by simp, fun j => by simp⟩
 refine SemA.draw (fun i => decide (i < T.length + 1)) [(0, true), (1, true), (2, true), (4, true), (3, false), (5, false), (6, false), (7, true)] mixed (by kernel_rfl) ?_
 simp -dsimp +decide (disch := omega) only [vr, ty, en, ↓reduceIte, hr, g0, keepO, kk]
 refine (low09_ok (k := 4) (by omega)).det' ?_
 simp -dsimp +decide (disch := omega) only [vp0, en, ↓reduceIte]
 refine (body09_ok ok).det' ?_
 simp -dsimp +decide (disch := omega) only [vr, ty, en, ↓reduceIte, wt, hr, g0, hl8, kk]
 refine ⟨⟨by omega, by omega⟩, (low09V (k := 4) (by omega)).det' ?_⟩
 simp -dsimp +decide (disch := omega) only [vq, ty, ↓reduceIte, wt, hr, hl8, h4]
 refine ⟨⟨by omega, by omega⟩, ?_⟩
 refine Vw.pub (T.length + 1) (o := .buf 5 1 (t.bare.map by8)) (gn1 T _ _ _) rfl (clean8 _) ?_
 simp -dsimp +decide only [va, vl, ↓reduceIte, wp]
 rw [<- h5]
 exact Vw.cut ⟨rfl, rfl, rfl⟩
theorem id09_ok {T : Tbl} {t : TTx} (ok : t.Ok) : CallA prog G 42 [.ag t.cs] T fun v T' es => v = .ag (t.id.map by8) /\ T' = T /\ es = [] := by
 refine CallA.wfs fun wf => ?_
 have hr := TTx.rules ok
 have hi := t.id_len
 have hbl := TTx.body_le ok
 have hl : t.bare.length <= 1099511627776 := by simp only [TTx.bare, List.length_append, lo8_len]; omega
 refine CallA.eV 3 func42 ntmps42 results42 ?_
 simp -dsimp +decide only [vp0, ty, en, ↓reduceIte, Nat.reduceSub]
 simp -dsimp +decide (disch := omega) only [vc, hr, ez32]
 refine (bare09_ok ok).det' ?_
 simp -dsimp +decide (disch := omega) only [va, en, ↓reduceIte, hr]
 refine (rtwice_ok (Bs.vs _) hl).det' ?_
 rw [show twice t.bare = t.id from rfl]
 simp -dsimp +decide (disch := omega) only [vq, ty, ↓reduceIte, Nat.reduceLT, vh, hi, List.drop_zero]
 exact Vw.cut ⟨by rw [AV.wo, AV.woL_eq, wb8], rfl, rfl⟩
def upd (V : Tbl) (i j : Nat) (out : List UInt8) : Tbl := (V.set j (.buf 5 1 (out.map by8))).set i (.cells 180 [.sl j 0 out.length])
structure Wr (V : Tbl) (i j : Nat) (out : List UInt8) : Prop where
 gi : V[i]? = some (.cells 180 [.sl j 0 out.length])
 gj : V[j]? = some (.buf 5 1 (out.map by8))
 gu : V.map (AObj.wo (· == j)) = V.set i (.cells 180 [.any])
theorem Wr.ne {V : Tbl} {i j : Nat} {out : List UInt8} (h : Wr V i j out) : i ≠ j := by
 rintro rfl
 have := h.gi.symm.trans h.gj
 cases this
theorem Wr.lt {V : Tbl} {i j : Nat} {out : List UInt8} (h : Wr V i j out) : i < V.length /\ j < V.length :=
 ⟨(List.getElem?_eq_some_iff.1 h.gi).1, (List.getElem?_eq_some_iff.1 h.gj).1⟩
theorem upd_len (V : Tbl) (i j : Nat) (out : List UInt8) : (upd V i j out).length = V.length := by simp [upd]
theorem Wr.upd {V : Tbl} {i j : Nat} {out : List UInt8} (h : Wr V i j out) (o2 : List UInt8) : Wr (upd V i j o2) i j o2 := by
 have hn := h.ne
 have hl := h.lt
 refine ⟨?_, ?_, ?_⟩
 . rw [Proofs.YtmcbdlefakjpoaaGreatDoor.upd, List.getElem?_set_self (by simp; omega)]
 . rw [Proofs.YtmcbdlefakjpoaaGreatDoor.upd, List.getElem?_set_ne hn, List.getElem?_set_self hl.2]
 . have e1 : AObj.wo (· == j) (.buf 5 1 (o2.map by8)) = .buf 5 1 (o2.map by8) := by rw [AObj.wo, wb8]
   have e2 : AObj.wo (· == j) (.cells 180 [.sl j 0 o2.length]) = .cells 180 [.any] := by
    rw [AObj.wo]; simp [AV.wo]
   rw [Proofs.YtmcbdlefakjpoaaGreatDoor.upd, List.map_set, List.map_set, h.gu, e1, e2, List.set_set, List.set_comm _ _ hn, List.set_set]
theorem upd_upd {V : Tbl} {i j : Nat} {a b : List UInt8} (h : i ≠ j) : upd (upd V i j a) i j b = upd V i j b := by
 simp only [upd]
 rw [List.set_comm _ _ h, List.set_set, List.set_comm _ _ h.symm, List.set_comm (l := (V.set j _)) _ _ h, List.set_set]
theorem upd_self {V : Tbl} {i j : Nat} {out : List UInt8} (h : Wr V i j out) : upd V i j out = V := by
 have e : ∀ (l : Tbl) (k : Nat) (o : AObj), l[k]? = some o -> l.set k o = l := fun l k o h => by
  obtain ⟨hk, rfl⟩ := List.getElem?_eq_some_iff.1 h
  exact List.set_getElem_self hk
 rw [upd, e V j _ h.gj, e V i _ h.gi]
theorem upd_wo {V : Tbl} {i j : Nat} {q : Nat -> Bool} (hV : V.map (AObj.wo q) = V) (hq : q j = false) (o : List UInt8) : (upd V i j o).map (AObj.wo q) = upd V i j o := by
 have e1 : AObj.wo q (.buf 5 1 (o.map by8)) = .buf 5 1 (o.map by8) := by rw [AObj.wo, wb8]
 have e2 : AObj.wo q (.cells 180 [.sl j 0 o.length]) = .cells 180 [.sl j 0 o.length] := by
  rw [AObj.wo]; simp [AV.wo, hq]
 rw [upd, List.map_set, List.map_set, hV, e1, e2]
def EW (i j : Nat) : Eff := [(j, true), (j, false), (i, false)]
theorem shr_nat (x : UInt64) (k : Nat) : (u64_shr x k).toNat = x.toNat / 2 ^ k := by
 unfold u64_shr
 split
 . rename_i h
   rw [UInt64.toNat_shiftRight, UInt64.toNat_ofNat', Nat.shiftRight_eq_div_pow, Nat.mod_eq_of_lt (by omega : k < 2 ^ 64), Nat.mod_eq_of_lt h]
 . rename_i h
   have h1 := x.toNat_lt
   have h2 : 2 ^ 64 <= 2 ^ k := Nat.pow_le_pow_right (by decide) (by omega)
   rw [Nat.div_eq_of_lt (by omega)]; rfl
def nsh8 (x : UInt64) (k : Nat) : UInt64 := u64_shr x (8 * k)
theorem nsh8_step (x : UInt64) (k : Nat) : u64_shr (nsh8 x k) 8 = nsh8 x (k + 1) := by
 rw [<- UInt64.toNat_inj, shr_nat, nsh8, nsh8, shr_nat, shr_nat, Nat.div_div_eq_div_mul, <- Nat.pow_add, Nat.mul_succ]
theorem wnum_ok {V : Tbl} {i j : Nat} {out : List UInt8} (h : Wr V i j out) (hl : out.length <= 1099511627776) {x : UInt64} {k : Nat} (hk : k <= 8) :
 CallA prog G 79 [.ptr i 0, w64 x, wint (k : Int)] V fun v T' es => v = .tu [] /\ T' = upd V i j (out ++ lo8 x k) /\ es = EW i j := by
 refine CallA.wfs fun wf => ?_
 have wt := wf.t
 have hn := h.ne
 have hlt := h.lt
 refine CallA.eV 8 func79 ntmps79 results79 ?_
 simp -dsimp +decide only [vq, ↓reduceIte, Nat.reduceSub, Nat.reduceAdd]
 refine SemA.loopK V.length (fun t : Nat => [(0, .ptr i 0), (1, w64 (nsh8 x t)), (6, wint (k : Int)), (7, wint (t : Int))]) (fun t => upd V i j (out ++ lo8 x t)) (fun t => t <= k) (fun t => k - t) 0 (EW i j) 0 (fun _ : Unit => []) (fun _ => upd V i j (out ++ lo8 x k)) (fun _ => True) (by omega) (by omega) (by (simp -dsimp +decide (disch := omega) only [vq, Nat.reduceAdd, ci]); simp [nsh8, u64_shr]) (by simp [lo8, upd_self h]) (by simp) ?_ ?_
 . rintro t g ht
   have hU := h.upd (out ++ lo8 x t)
   have hUl := upd_len V i j (out ++ lo8 x t)
   have hUU := fun b => upd_upd (V := V) (a := out ++ lo8 x t) (b := b) hn
   have hUw := upd_wo (V := V) (i := i) (j := j) (q := fun m => decide (V.length <= m)) wt.2.1 (decide_eq_false (by omega)) (out ++ lo8 x t)
   obtain ⟨U, hUe⟩ : ∃ U, U = upd V i j (out ++ lo8 x t) := ⟨_, rfl⟩
   rw [<- hUe] at hU hUl hUU hUw ⊢
   rw [<- hUl] at hUw ⊢
   have hi := hU.gi
   have hj := hU.gj
   have hu := hU.gu
   have hlU := hU.lt
   have hij : (i == j) = false := by simpa using hn
   have hUj : (U.length == j) = false := by
    have : U.length ≠ j := by omega
    simpa using this
   have hjj : (j == j) = true := by simp
   have hja : ∀ l, (U ++ l)[j]? = some (.buf 5 1 ((out ++ lo8 x t).map by8)) := fun l => by rw [List.getElem?_append_left hlU.2, hj]
   have hs1 : ∀ a l o, (U.set i a ++ l).set j o = (U.set i a).set j o ++ l := fun a l o => by rw [List.set_append_left _ _ (by simp; omega)]
   have hg1 : ∀ a o l, ((U.set i a).set j o ++ l)[i]? = some a := fun a o l => by rw [List.getElem?_append_left (by simp; omega), List.getElem?_set_ne hn.symm, List.getElem?_set_self hlU.1]
   have hs2 : ∀ a o l b, ((U.set i a).set j o ++ l).set i b = (U.set j o).set i b ++ l := fun a o l b => by rw [List.set_append_left _ _ (by simp; omega), List.set_comm _ _ hn.symm, List.set_set, List.set_comm _ _ hn, List.set_comm _ _ hn.symm]
   have hlo : (out ++ lo8 x t).length = out.length + t := by rw [List.length_append, lo8_len]
   refine SemA.o ?_
   simp -dsimp +decide (disch := omega) only [vq, ↓reduceIte, Nat.reduceAdd]
   refine CondP.dec (fun h => ?_) (fun h => ?_)
   . simp -dsimp +decide (disch := omega) only [vt2, vr, ty, ↓reduceIte, Nat.reduceAdd, Nat.reduceLT, Int.reduceToNat, vi, vt, hi, hja, hu, hlo, hij, hUj, hjj, hs1, hg1, hs2]
     have hA : (U.set j (AObj.buf 5 1 (List.map by8 (out ++ lo8 x t ++ [(nsh8 x t).toUInt8])))).set i (AObj.cells 180 [AV.sl j 0 (out.length + (t + 1))]) = upd V i j (out ++ lo8 x (t + 1)) := by
      rw [<- hUU, upd, lo8_next, <- List.append_assoc]
      have : (out ++ lo8 x t ++ [(nsh8 x t).toUInt8]).length = out.length + (t + 1) := by rw [List.length_append, hlo]; rfl
      rw [<- this]; rfl
     refine ⟨⟨by omega, by omega⟩, ⟨t + 1, ⟨by omega, by omega⟩, ⟨?_, ?_, rfl⟩, ?_⟩, ?_⟩
     . rw [if_neg (by simp; omega)]
     . rw [nsh8_step]
     . rw [hA, hUl, <- upd_len V i j (out ++ lo8 x (t + 1)), List.take_left, upd_len]
       exact upd_wo (V := V) (i := i) (j := j) (q := fun m => decide (V.length <= m)) wt.2.1 (decide_eq_false (by omega)) _
     . rw [rec1, rec1, if_pos hlU.1, if_pos hlU.2]
       intro p hp
       simp only [EW, List.mem_cons, List.not_mem_nil, or_false] at hp ⊢
       rcases hp with rfl | rfl | rfl | rfl | rfl <;> simp
   . have e : t = k := by omega
     subst e
     simp -dsimp +decide (disch := omega) only [vt2, vze, vp0, ↓reduceIte, Nat.reduceAdd]
     rw [hUw, hUe]
     exact ⟨(), rfl⟩
 . rintro _ g tmp -
   simp -dsimp +decide (disch := omega) only [vp0, ↓reduceIte, Nat.reduceAdd]
   exact Vw.done ⟨rfl, rfl, rfl⟩
theorem Wr.upd_upd {V : Tbl} {i j : Nat} {out : List UInt8} (h : Wr V i j out) (a b : List UInt8) : Proofs.YtmcbdlefakjpoaaGreatDoor.upd (Proofs.YtmcbdlefakjpoaaGreatDoor.upd V i j a) i j b = Proofs.YtmcbdlefakjpoaaGreatDoor.upd V i j b := Proofs.YtmcbdlefakjpoaaGreatDoor.upd_upd h.ne
theorem slots_EW (i j : Nat) : (∀ l, slots (EW i j) l = l.map (AV.wo (· == j))) /\ (∀ l, slotsT (EW i j) l = l.map fun p => (p.1, p.2.wo (· == j))) := by
 have e : moved (EW i j) = (· == j) := by
  funext m
  simp only [EW, moved, Bool.true_and, Bool.false_and, Bool.or_false]
  rw [Bool.eq_iff_iff]; simp
 exact ⟨fun l => by show l.map (AV.wo (moved (EW i j))) = _; rw [e], fun l => by show (l.map fun p => (p.1, p.2.wo (moved (EW i j)))) = _; rw [e]⟩
theorem recE_EW {n i j : Nat} (hi : i < n) (hj : j < n) (E : Eff) : recE n (EW i j) E = (j, true) :: (j, false) :: (i, false) :: E := by
 simp [EW, recE, rec1, hi, hj]
theorem wcount_ok {V : Tbl} {i j : Nat} {out : List UInt8} (h : Wr V i j out) (hl : out.length <= 549755813888) {n : Nat} (hn : n <= 1000000000) :
 CallA prog G 101 [.ptr i 0, wint (n : Int)] V fun v T' es => v = .tu [] /\ T' = upd V i j (out ++ cntB n) /\ es = EW i j := by
 refine CallA.wfs fun wf => ?_
 have hne := h.ne
 have hlt := h.lt
 have hu : (UInt64.ofInt (n : Int)).toNat = n := ofInt_lt (by omega)
 have hij : (i == j) = false := by simpa using hne
 have sE := slots_EW i j
 have rE := fun E => recE_EW hlt.1 hlt.2 E
 have num : ∀ {U : Tbl} {o : List UInt8} {x k : Nat}, Wr U i j o -> o.length <= 1099511627776 -> x < 18446744073709551616 -> k <= 8 -> CallA prog G 79 [.ptr i 0, .p (.int .u64 (x : Int)), .p (.int .i64 (k : Int))] U fun v T' es => v = .tu [] /\ T' = upd U i j (o ++ lo8 (UInt64.ofNat x) k) /\ es = EW i j := fun {U o x k} h1 h2 h3 h4 => by
  have := wnum_ok h1 h2 (x := UInt64.ofNat x) h4
  rwa [w64, UInt64.toNat_ofNat', Nat.mod_eq_of_lt (by omega)] at this
 have c8 : (UInt8.ofNat n).toNat = n % 256 := by simp
 have l1 : n < 253 -> lo8 (UInt64.ofNat n) 1 = [UInt8.ofNat n] := fun h => by
  rw [show (1 : Nat) = 0 + 1 from rfl, lo8_next]
  show [] ++ [_] = _
  rw [List.nil_append]
  refine congrArg (fun b => [b]) ?_
  rw [<- UInt8.toNat_inj, UInt64.toNat_toUInt8, shr_nat, UInt64.toNat_ofNat', c8]; simp
 have m1 : lo8 (UInt64.ofNat 253) 1 = [253] := by decide
 have m2 : lo8 (UInt64.ofNat 254) 1 = [254] := by decide
 refine CallA.eV 5 func101 ntmps101 results101 ?_
 simp -dsimp +decide only [vr, ty, ↓reduceIte, Nat.reduceSub, Nat.reduceAdd]
 simp -dsimp +decide (disch := omega) only [hu]
 refine CondP.dec (fun h1 => ?_) (fun h1 => ?_)
 . rw [show cntB n = lo8 (UInt64.ofNat n) 1 by rw [l1 (by omega), cntB, if_pos (by omega)]]
   simp -dsimp +decide (disch := omega) only [va, en, ↓reduceIte, hu]
   refine (num (k := 1) h (by omega) (by omega) (by omega)).det' ?_
   simp -dsimp +decide (disch := omega) only [va, ↓reduceIte, sE, rE, hij]
   exact Vw.done ⟨rfl, rfl, rfl⟩
 . simp -dsimp +decide (disch := omega) only [vp0, ↓reduceIte, hu]
   have fin : ∀ (a : List UInt8) (k : Nat), a.length = 1 -> (Vw G V (fun v T' es => v = .tu [] /\ T' = upd V i j (out ++ (a ++ lo8 (UInt64.ofNat n) k)) /\ es = EW i j) (.tu []) (upd (upd V i j (out ++ a)) i j (out ++ a ++ lo8 (UInt64.ofNat n) k)) [(j, true), (j, false), (i, false), (j, true), (j, false), (i, false)]) := fun a k _ => by
    rw [h.upd_upd, List.append_assoc]
    refine Vw.eff (E' := EW i j) (by simp [EW]) ?_
    exact Vw.done ⟨rfl, rfl, rfl⟩
   refine CondP.dec (fun h2 => ?_) (fun h2 => ?_)
   . rw [show cntB n = [253] ++ lo8 (UInt64.ofNat n) 2 by rw [cntB, if_neg (by omega), if_pos (by omega)]; rfl]
     simp -dsimp +decide (disch := omega) only [va, en, ↓reduceIte]
     refine (num (x := 253) (k := 1) h (by omega) (by omega) (by omega)).det' ?_
     rw [m1]
     simp -dsimp +decide (disch := omega) only [va, en, ↓reduceIte, sE, rE, hij]
     refine (num (k := 2) (h.upd _) (by rw [List.length_append]; simp; omega) (by omega) (by omega)).det' ?_
     simp -dsimp +decide (disch := omega) only [va, ↓reduceIte, sE, rE, hij]
     exact fin [253] 2 rfl
   . simp -dsimp +decide (disch := omega) only [vp0, ↓reduceIte]
     refine CondP.dec (fun h3 => ?_) (fun h3 => ?_)
     . rw [show cntB n = [254] ++ lo8 (UInt64.ofNat n) 4 by rw [cntB, if_neg (by omega), if_neg (by omega), if_pos (by omega)]; rfl]
       simp -dsimp +decide (disch := omega) only [va, en, ↓reduceIte]
       refine (num (x := 254) (k := 1) h (by omega) (by omega) (by omega)).det' ?_
       rw [m2]
       simp -dsimp +decide (disch := omega) only [va, en, ↓reduceIte, sE, rE, hij]
       refine (num (k := 4) (h.upd _) (by rw [List.length_append]; simp; omega) (by omega) (by omega)).det' ?_
       simp -dsimp +decide (disch := omega) only [va, ↓reduceIte, sE, rE, hij]
       exact fin [254] 4 rfl
     . exfalso; omega
theorem Wr.rules {U : Tbl} {i j : Nat} {out : List UInt8} (h : Wr U i j out) : (∀ l, (U ++ l)[i]? = some (.cells 180 [.sl j 0 out.length])) /\ (∀ l, (U ++ l)[j]? = some (.buf 5 1 (out.map by8))) /\
 U[i]? = some (.cells 180 [.sl j 0 out.length]) /\ U[j]? = some (.buf 5 1 (out.map by8)) /\ U.map (AObj.wo (fun m => m == j)) = U.set i (.cells 180 [.any]) /\
 (∀ a l o, (U.set i a ++ l).set j o = (U.set i a).set j o ++ l) /\ (∀ a o l, ((U.set i a).set j o ++ l)[i]? = some a) /\ (∀ a o, ((U.set i a).set j o)[i]? = some a) /\
 (∀ a o l b, ((U.set i a).set j o ++ l).set i b = (U.set j o).set i b ++ l) /\ (∀ a o b, ((U.set i a).set j o).set i b = (U.set j o).set i b) /\ ((i == j) = false) /\ ((U.length == j) = false) /\ ((j == j) = true) /\ (∀ k, (U.length + k == j) = false) := by
 have hn := h.ne
 have hl := h.lt
 have e2 : ∀ (a o b : AObj), ((U.set i a).set j o).set i b = (U.set j o).set i b := fun a o b => by rw [List.set_comm _ _ hn.symm, List.set_set, List.set_comm _ _ hn, List.set_comm _ _ hn.symm]
 have e1 : ∀ (a o : AObj), ((U.set i a).set j o)[i]? = some a := fun a o => by rw [List.getElem?_set_ne hn.symm, List.getElem?_set_self hl.1]
 refine ⟨fun l => by rw [List.getElem?_append_left hl.1, h.gi], fun l => by rw [List.getElem?_append_left hl.2, h.gj], h.gi, h.gj, h.gu, fun a l o => by rw [List.set_append_left _ _ (by simp; omega)], fun a o l => by rw [List.getElem?_append_left (by simp; omega), e1], e1, fun a o l b => by rw [List.set_append_left _ _ (by simp; omega), e2], e2, by simpa using hn, ?_, by simp, fun k => ?_⟩
 . have : U.length ≠ j := by omega
   simpa using this
 . have : U.length + k ≠ j := by omega
   simpa using this
theorem witem_ok {V : Tbl} {i j : Nat} {out : List UInt8} (h : Wr V i j out) (hl : out.length <= 274877906944) {x : By} (hx : x.Ok) (hn : x.b.length <= 1048576) :
 CallA prog G 102 [.ptr i 0, x.a] V fun v T' es => v = .tu [] /\ T' = upd V i j (out ++ itemB x.b) /\ es = EW i j := by
 refine CallA.wfs fun wf => ?_
 have hlt := h.lt
 have hij : (i == j) = false := by simpa using h.ne
 have sE := slots_EW i j
 have rE := fun E => recE_EW hlt.1 hlt.2 E
 have hc := cntB_le x.b.length
 have k1 := hx.k
 have kw := k1.wo
 have hsr := Sl.rules (hx.bs V) (by decide)
 refine CallA.eV 4 func102 ntmps102 results102 ?_
 simp -dsimp +decide only [vp0, ty, ↓reduceIte, Nat.reduceSub, Nat.reduceAdd]
 simp -dsimp +decide (disch := omega) only [va, en, ↓reduceIte, hsr]
 refine (wcount_ok h (by omega) (by omega)).det' ?_
 have hU := h.upd (out ++ cntB x.b.length)
 have hUl := upd_len V i j (out ++ cntB x.b.length)
 have hUU := fun b => h.upd_upd (out ++ cntB x.b.length) b
 have hlo : (out ++ cntB x.b.length).length = out.length + (cntB x.b.length).length := List.length_append
 revert hU hUl hUU hlo
 generalize upd V i j (out ++ cntB x.b.length) = U
 intro hU hUl hUU hlo
 have hsU := Sl.rules (hx.bs U) (by decide)
 have hur := hU.rules
 simp -dsimp +decide (disch := omega) only [vq, ty, ↓reduceIte, Nat.reduceLT, sE, rE, hij, kw, hur, hsU]
 refine ⟨⟨by omega, by omega⟩, ?_⟩
 have hA : (U.set j (AObj.buf 5 1 (List.map by8 (out ++ cntB x.b.length ++ x.b)))).set i (AObj.cells 180 [AV.sl j 0 ((out ++ cntB x.b.length).length + x.b.length)]) = upd V i j (out ++ itemB x.b) := by
  rw [<- hUU, upd, itemB, <- List.append_assoc, <- List.length_append]
 rw [hA, rec1, rec1, if_pos hlt.1, if_pos hlt.2]
 refine Vw.eff (E' := EW i j) (by simp [EW]) ?_
 exact Vw.done ⟨rfl, rfl, rfl⟩
theorem Wr.app {V S : Tbl} {i j : Nat} {out : List UInt8} (h : Wr V i j out) (hS : S.map (AObj.wo (fun m => m == j)) = S) : Wr (V ++ S) i j out where
 gi := by rw [List.getElem?_append_left h.lt.1]; exact h.gi
 gj := by rw [List.getElem?_append_left h.lt.2]; exact h.gj
 gu := by rw [List.map_append, h.gu, hS, List.set_append_left _ _ h.lt.1]
theorem Wr.upd_app {V : Tbl} {i j : Nat} {out : List UInt8} (h : Wr V i j out) (S : Tbl) (o : List UInt8) : Proofs.YtmcbdlefakjpoaaGreatDoor.upd (V ++ S) i j o = Proofs.YtmcbdlefakjpoaaGreatDoor.upd V i j o ++ S := by
 rw [Proofs.YtmcbdlefakjpoaaGreatDoor.upd, List.set_append_left _ _ h.lt.2, List.set_append_left _ _ (by rw [List.length_set]; exact h.lt.1)]; rfl
theorem wnumA {V S : Tbl} {i j : Nat} {out : List UInt8} (h : Wr V i j out) (hS : S.map (AObj.wo (fun m => m == j)) = S) (hl : out.length <= 1099511627776) {x : UInt64} {k : Nat} (hk : k <= 8) :
 CallA prog G 79 [.ptr i 0, w64 x, wint (k : Int)] (V ++ S) fun v T' es => v = .tu [] /\ T' = upd V i j (out ++ lo8 x k) ++ S /\ es = EW i j :=
 (wnum_ok (h.app hS) hl hk).mono fun v T' es ⟨h1, h2, h3⟩ => ⟨h1, by rw [h2, h.upd_app], h3⟩
theorem wcountA {V S : Tbl} {i j : Nat} {out : List UInt8} (h : Wr V i j out) (hS : S.map (AObj.wo (fun m => m == j)) = S) (hl : out.length <= 549755813888) {n : Nat} (hn : n <= 1000000000) :
 CallA prog G 101 [.ptr i 0, wint (n : Int)] (V ++ S) fun v T' es => v = .tu [] /\ T' = upd V i j (out ++ cntB n) ++ S /\ es = EW i j :=
 (wcount_ok (h.app hS) hl hn).mono fun v T' es ⟨h1, h2, h3⟩ => ⟨h1, by rw [h2, h.upd_app], h3⟩
theorem witemA {V S : Tbl} {i j : Nat} {out : List UInt8} (h : Wr V i j out) (hS : S.map (AObj.wo (fun m => m == j)) = S) (hl : out.length <= 274877906944) {x : By} (hx : x.Ok) (hn : x.b.length <= 1048576) :
 CallA prog G 102 [.ptr i 0, x.a] (V ++ S) fun v T' es => v = .tu [] /\ T' = upd V i j (out ++ itemB x.b) ++ S /\ es = EW i j :=
 (witem_ok (h.app hS) hl hx hn).mono fun v T' es ⟨h1, h2, h3⟩ => ⟨h1, by rw [h2, h.upd_app], h3⟩
def z36 : List AV := z32 ++ [w32 0, .p (.slice none 0 0), w32 0, .p (.slice none 0 0)]
theorem ez36 : [oB, oB, oB, oB, oB, oB, oB, oB, oB, oB, oB, oB, oB, oB, oB, oB, oB, oB, oB, oB, oB, oB, oB, oB, oB, oB, oB, oB, oB, oB, oB, oB, oW, AV.p (Value.slice none 0 0), oW, AV.p (Value.slice none 0 0)] = z36 := rfl
theorem vz36 : z36.length = 36 /\ (∀ h : TIn, h.Ok -> wrA z36 0 h.cs = h.cs) := ⟨rfl, fun h ok => wrA_all (by rw [(TIn.rules ok).1]; rfl)⟩
theorem sub1 {n m i j : Nat} {b : Bool} {E : Eff} (h : subE E (EW i j)) (hm : (m, b) ∈ EW i j) : subE (rec1 n m b E) (EW i j) := by
 unfold rec1
 split
 . intro x hx
   rcases List.mem_cons.1 hx with rfl | hx
   . exact hm
   . exact h x hx
 . exact h
theorem subEW {n i j : Nat} {E : Eff} (h : subE E (EW i j)) : subE (recE n (EW i j) E) (EW i j) := by
 simp only [EW, recE]
 exact sub1 (sub1 (sub1 h (by simp [EW])) (by simp [EW])) (by simp [EW])
theorem subE_refl (E : Eff) : subE E E := fun _ h => h
theorem TOut.rules {x : TOut} (ok : x.Ok) : x.cs.length = 2 /\ x.cs[0]? = some (w64 x.value) /\ x.cs[1]? = some x.sc.a /\ wrA [oQ, AV.p (Value.slice none 0 0)] 0 x.cs = x.cs /\ (∀ q, x.cs.map (AV.wo q) = x.cs) /\ (∀ i cs, x.cs.map (AV.pub i cs) = x.cs) /\ ones x.cs = true := by
 have k1 := ok.s.k
 refine ⟨rfl, rfl, rfl, rfl, fun q => ?_, fun i cs => ?_, ?_⟩
 . simp only [TOut.cs, List.map_cons, List.map_nil, k1.wo, w64, AV.wo]
 . simp only [TOut.cs, List.map_cons, List.map_nil, k1.pub, w64, AV.pub]
 . simp only [TOut.cs, ones, List.all_cons, List.all_nil, k1.one, Bool.and_true]
   rfl
theorem hcells {E : TypeId} {cs : List AV} (h : ∀ q, cs.map (AV.wo q) = cs) (q : Nat -> Bool) : [AObj.cells E cs].map (AObj.wo q) = [AObj.cells E cs] := by
 rw [List.map_cons, AObj.wo, h]; rfl
theorem wbody_ok {V : Tbl} {i j : Nat} {out : List UInt8} (h : Wr V i j out) (hl : out.length <= 1000000) {t : TTx} (ok : t.Ok) (il : t.ins.length <= 10000) (ol : t.outs.length <= 10000) :
 CallA prog G 80 [.ptr i 0, .ag t.cs] V fun v T' es => v = .tu [] /\ T' = upd V i j (out ++ t.body) /\ es = EW i j := by
 refine CallA.wfs fun wf => ?_
 have wt := wf.t
 have hlt := h.lt
 have hij : (i == j) = false := by simpa using h.ne
 have sE := slots_EW i j
 have rE := fun E => recE_EW hlt.1 hlt.2 E
 have hr := TTx.rules ok
 have hbi := ok.i.es V
 have hsi := Sl.rules hbi.sl (by decide)
 have hcl := cntB_le t.ins.length
 have hcl2 := cntB_le t.outs.length
 have k1 := ok.i.k.wo
 have k2 := ok.o.k.wo
 refine CallA.eV 56 func80 ntmps80 results80 ?_
 simp -dsimp +decide only [vp0, ty, ↓reduceIte, Nat.reduceSub, Nat.reduceAdd]
 simp -dsimp +decide (disch := omega) only [va, ty, en, ↓reduceIte, hr, hsi]
 refine (wcountA h (hcells hr.2.2.2.2.2.2.2.1 _) (by omega) (by omega)).det' ?_
 have hU := h.upd (out ++ cntB t.ins.length)
 have hUl := upd_len V i j (out ++ cntB t.ins.length)
 have hUU := fun b => h.upd_upd (out ++ cntB t.ins.length) b
 obtain ⟨U, hUe⟩ : ∃ U, U = upd V i j (out ++ cntB t.ins.length) := ⟨_, rfl⟩
 rw [<- hUe] at hU hUl hUU ⊢
 have hVj : (V.length == j) = false := by
  have : V.length ≠ j := by omega
  simpa using this
 have g0U : ∀ l, (U ++ AObj.cells 63 t.cs :: l)[V.length]? = some (.cells 63 t.cs) := fun l => by rw [<- hUl]; exact gn0 U _ l
 have hsiU := Sl.rules (ok.i.es U).sl (by decide)
 simp -dsimp +decide (disch := omega) only [vp0, ty, ↓reduceIte, sE, rE, hij, hVj, hr, g0U, hsiU]
 obtain ⟨A, hA⟩ : ∃ A, A = out ++ cntB t.ins.length := ⟨_, rfl⟩
 rw [<- hA] at hUe
 have hAl : A.length <= 1000009 := by rw [hA, List.length_append]; omega
 have hfl : ∀ k, ((t.ins.take k).flatMap TIn.b).length <= 20000000000 := fun k => by
  have h1 : ((t.ins.take k).flatMap TIn.b).length <= (t.ins.take k).length * 2000000 := flat_le fun x hx => TIn.b_le (ok.ii x (List.mem_of_mem_take hx))
  have h2 : (t.ins.take k).length * 2000000 <= 10000 * 2000000 := Nat.mul_le_mul_right _ (by rw [List.length_take]; omega)
  omega
 have hfl2 : ∀ k, ((t.outs.take k).flatMap TOut.b).length <= 20000000000 := fun k => by
  have h1 : ((t.outs.take k).flatMap TOut.b).length <= (t.outs.take k).length * 2000000 := flat_le fun x hx => TOut.b_le (ok.oo x (List.mem_of_mem_take hx))
  have h2 : (t.outs.take k).length * 2000000 <= 10000 * 2000000 := Nat.mul_le_mul_right _ (by rw [List.length_take]; omega)
  omega
 have hwV : ∀ o : List UInt8, (upd V i j o).map (AObj.wo (fun m => decide (V.length + 1 <= m))) = upd V i j o := fun o => upd_wo (V := V) (i := i) (j := j) (q := fun m => decide (V.length + 1 <= m)) (wt.1 1) (decide_eq_false (by omega)) o
 refine SemA.loopK (V.length + 1) (fun k : Nat => [(0, .ptr i 0), (3, .ptr V.length 0), (14, t.ia), (15, wint (t.ins.length : Int)), (16, wint (k : Int))]) (fun k => upd V i j (A ++ (t.ins.take k).flatMap TIn.b) ++ [.cells 63 t.cs]) (fun k => k <= t.ins.length) (fun k => t.ins.length - k) 0 (EW i j) 0 (fun _ : Unit => [(0, .ptr i 0), (3, .ptr V.length 0)]) (fun _ => upd V i j (A ++ t.ins.flatMap TIn.b) ++ [.cells 63 t.cs]) (fun _ => True) (by omega) (by omega) (by (simp -dsimp +decide (disch := omega) only [vq, Nat.reduceAdd, ci]); first | rfl | done) (by rw [hUe]; simp) (by simp [EW]) ?_ ?_
 . rintro k g hk
   have hU := h.upd (A ++ (t.ins.take k).flatMap TIn.b)
   have hUl := upd_len V i j (A ++ (t.ins.take k).flatMap TIn.b)
   have hUU := fun b => h.upd_upd (A ++ (t.ins.take k).flatMap TIn.b) b
   have hBl : (A ++ (t.ins.take k).flatMap TIn.b).length = A.length + ((t.ins.take k).flatMap TIn.b).length := List.length_append
   have hf := hfl k
   obtain ⟨W, hWe⟩ : ∃ W, W = upd V i j (A ++ (t.ins.take k).flatMap TIn.b) := ⟨_, rfl⟩
   rw [<- hWe] at hU hUl hUU ⊢
   refine SemA.o ?_
   simp -dsimp +decide (disch := omega) only [vq, ↓reduceIte, Nat.reduceAdd]
   refine CondP.dec (fun hc => ?_) (fun hc => ?_)
   . obtain ⟨x, hx⟩ : ∃ x, t.ins[k]? = some x := ⟨t.ins[k]'(by omega), by simp⟩
     have hxo := ok.ii x (List.mem_of_getElem? hx)
     have hsiW := Sl.rules (ok.i.es W).sl (by decide)
     have hldi := (ok.i.es W).ld (P := prog) (t := 68) (by (simp -dsimp +decide only [])) (by (simp -dsimp +decide only [])) (by decide)
     rw [<- hUl]
     have hxr := TIn.rules hxo
     have hxp := hxo.t
     have hur := hU.rules
     simp -dsimp +decide (disch := omega) only [vp0, ty, ↓reduceIte, Nat.reduceLT, hsiW, hldi, hx, hxr, ez36, vz36]
     refine ⟨⟨by omega, by omega⟩, ?_⟩
     refine SemA.drawS (.fl 0 (.fl 1 (.fl 2 (.fl 3 (.fl 4 (.fl 5 (.fl 6 (.fl 7 (.sq 8 (.fl 9 (.fl 10 (.sq 11 .nil)))))))))))) mixed (by kernel_rfl) ?_
     have gW1 := fun a l => gn1 W a (.cells 68 x.cs) l
     have hB32 : (A ++ (t.ins.take k).flatMap TIn.b ++ x.tx).length = (A ++ (t.ins.take k).flatMap TIn.b).length + 32 := by rw [List.length_append (bs := x.tx), hxp]
     have hfold : (W.set j (AObj.buf 5 1 (List.map by8 (A ++ (t.ins.take k).flatMap TIn.b ++ x.tx)))).set i (AObj.cells 180 [AV.sl j 0 ((A ++ (t.ins.take k).flatMap TIn.b).length + 32)]) = upd V i j (A ++ (t.ins.take k).flatMap TIn.b ++ x.tx) := by
      rw [<- hUU, upd, hB32]
     have gu1 : ∀ o a b l, (upd V i j o ++ a :: b :: l)[W.length + 1]? = some b := fun o a b l => by rw [hUl, <- upd_len V i j o]; exact gn1 _ a b l
     have hVV := fun a b => h.upd_upd a b
     have hS2 : [AObj.cells 63 t.cs, .cells 68 x.cs].map (AObj.wo (fun m => m == j)) = [AObj.cells 63 t.cs, .cells 68 x.cs] := by
      rw [List.map_cons, List.map_cons, AObj.wo, AObj.wo, hr.2.2.2.2.2.2.2.1, hxr.2.2.2.2.2.2.2.2.2.1]; rfl
     have hx1 := itemB_le x.sc.b
     have hx2 := hxo.l
     have h8 := fun n => lo8_len n 4
     simp -dsimp +decide (disch := omega) only [vy, vy, vr, ty, en, ↓reduceIte, Nat.reduceLT, hr, k1, hur, hxr, vh, gW1, hfold, gu1]
     refine ⟨⟨by omega, by omega⟩, (wnumA (h.upd _) hS2 (by rw [hB32]; omega) (k := 4) (by omega)).det' ?_⟩
     rw [hVV]
     simp -dsimp +decide (disch := omega) only [vp0, ty, en, ↓reduceIte, sE, k1, hur, hxr, gu1]
     refine (witemA (h.upd _) hS2 (by rw [List.length_append, h8, hB32]; omega) hxo.s hx2).det' ?_
     rw [hVV]
     simp -dsimp +decide (disch := omega) only [vr, ty, en, ↓reduceIte, sE, k1, hur, hxr, gu1]
     refine (wnumA (h.upd _) hS2 (by rw [List.length_append, List.length_append, h8, hB32]; omega) (k := 4) (by omega)).det' ?_
     rw [hVV]
     simp -dsimp +decide (disch := omega) only [vt2, vq, ↓reduceIte, Nat.reduceAdd, vi, vt, sE, k1, hur, hxr]
     have hstep : A ++ (t.ins.take k).flatMap TIn.b ++ x.tx ++ lo8 x.n.toUInt64 4 ++ itemB x.sc.b ++ lo8 x.seq.toUInt64 4 = A ++ (t.ins.take (k + 1)).flatMap TIn.b := by
      rw [List.take_add_one, hx, List.flatMap_append]
      simp [TIn.b]
     rw [hstep]
     refine ⟨⟨k + 1, ⟨by omega, by omega⟩, ⟨?_, rfl⟩, ?_⟩, ?_⟩
     . rw [if_neg (by simp; omega)]
     . rw [hUl, <- upd_len V i j (A ++ (t.ins.take (k + 1)).flatMap TIn.b), vt.1, List.map_append, upd_len, hwV]
       rw [show List.take 1 [AObj.cells 63 t.cs, AObj.cells 68 x.cs] = [AObj.cells 63 t.cs] from rfl, hcells hr.2.2.2.2.2.2.2.1]
     . exact subEW (subEW (subEW (sub1 (sub1 (subE_refl _) (by simp [EW])) (by simp [EW]))))
   . have e : k = t.ins.length := by omega
     subst e
     rw [List.take_length] at hWe
     rw [<- hUl]
     have wW := hwV (A ++ t.ins.flatMap TIn.b)
     rw [<- hWe, <- hUl] at wW
     simp -dsimp +decide (disch := omega) only [vt2, vze, vze, vp0, ↓reduceIte, Nat.reduceAdd, vt, hr, k1, wW]
     exact ⟨(), by rw [if_neg (by simp; omega)], by rw [hWe]⟩
 . rintro _ g tmp -
   have gu0 : ∀ o a l, (upd V i j o ++ a :: l)[V.length]? = some a := fun o a l => by rw [<- upd_len V i j o]; exact gn0 _ a l
   have gu1 : ∀ o a b l, (upd V i j o ++ a :: b :: l)[V.length + 1]? = some b := fun o a b l => by rw [<- upd_len V i j o]; exact gn1 _ a b l
   have hVV := fun a b => h.upd_upd a b
   have hS1 := hcells (E := 63) hr.2.2.2.2.2.2.2.1 (fun m => m == j)
   have hA1 : (A ++ t.ins.flatMap TIn.b).length <= 20001000009 := by
    have := hfl t.ins.length
    rw [List.take_length] at this
    rw [List.length_append]; omega
   obtain ⟨A1, hA1e⟩ : ∃ A1, A1 = A ++ t.ins.flatMap TIn.b := ⟨_, rfl⟩
   rw [<- hA1e] at hA1 ⊢
   have hsoU := fun o => Sl.rules (ok.o.es (upd V i j o)).sl (by decide)
   simp -dsimp +decide (disch := omega) only [vp0, ty, en, ↓reduceIte, Nat.reduceAdd, hr, gu0, hsoU]
   refine (wcountA (h.upd _) hS1 (by omega) (by omega)).det' ?_
   rw [hVV]
   obtain ⟨A2, hA2e⟩ : ∃ A2, A2 = A1 ++ cntB t.outs.length := ⟨_, rfl⟩
   have hA2 : A2.length <= 20001000018 := by rw [hA2e, List.length_append]; omega
   rw [<- hA2e]
   simp -dsimp +decide (disch := omega) only [vp0, ty, ↓reduceIte, sE, rE, hij, hVj, hr, gu0, hsoU]
   refine SemA.loopK (V.length + 1) (fun k : Nat => [(0, .ptr i 0), (53, t.oa), (54, wint (t.outs.length : Int)), (55, wint (k : Int))]) (fun k => upd V i j (A2 ++ (t.outs.take k).flatMap TOut.b) ++ [.cells 63 t.cs]) (fun k => k <= t.outs.length) (fun k => t.outs.length - k) 0 (EW i j) 2 (fun _ : Unit => []) (fun _ => upd V i j (A2 ++ t.outs.flatMap TOut.b) ++ [.cells 63 t.cs]) (fun _ => True) (by omega) (by omega) (by (simp -dsimp +decide (disch := omega) only [vq, Nat.reduceAdd, ci]); first | rfl | done) (by simp) (by simp [EW]) ?_ ?_
   . rintro k g hk
     have hU := h.upd (A2 ++ (t.outs.take k).flatMap TOut.b)
     have hUl := upd_len V i j (A2 ++ (t.outs.take k).flatMap TOut.b)
     have hBl : (A2 ++ (t.outs.take k).flatMap TOut.b).length = A2.length + ((t.outs.take k).flatMap TOut.b).length := List.length_append
     have hf := hfl2 k
     obtain ⟨W, hWe⟩ : ∃ W, W = upd V i j (A2 ++ (t.outs.take k).flatMap TOut.b) := ⟨_, rfl⟩
     rw [<- hWe] at hU hUl ⊢
     refine SemA.o ?_
     simp -dsimp +decide (disch := omega) only [vq, ↓reduceIte, Nat.reduceAdd]
     refine CondP.dec (fun hc => ?_) (fun hc => ?_)
     . obtain ⟨x, hx⟩ : ∃ x, t.outs[k]? = some x := ⟨t.outs[k]'(by omega), by simp⟩
       have hxo := ok.oo x (List.mem_of_getElem? hx)
       have hsoW := Sl.rules (ok.o.es W).sl (by decide)
       have hldo := (ok.o.es W).ld (P := prog) (t := 71) (by (simp -dsimp +decide only [])) (by (simp -dsimp +decide only [])) (by decide)
       rw [<- hUl]
       have gW1 := fun a l => gn1 W a (.cells 71 x.cs) l
       have hxr := TOut.rules hxo
       have hS2 : [AObj.cells 63 t.cs, .cells 71 x.cs].map (AObj.wo (fun m => m == j)) = [AObj.cells 63 t.cs, .cells 71 x.cs] := by
        rw [List.map_cons, List.map_cons, AObj.wo, AObj.wo, hr.2.2.2.2.2.2.2.1, hxr.2.2.2.2.1]; rfl
       have hx2 := hxo.l
       have h8 := lo8_len x.value 8
       have hVj1 : (V.length + 1 == j) = false := by
        have : V.length + 1 ≠ j := by omega
        simpa using this
       simp -dsimp +decide (disch := omega) only [vq, ty, en, ↓reduceIte, Nat.reduceAdd, Nat.reduceLT, hsoW, hldo, hx, gW1, hxr]
       refine ⟨⟨by omega, by omega⟩, ?_⟩
       rw [hWe, upd_len]
       refine (wnumA (h.upd _) hS2 (by omega) (k := 8) (by omega)).det' ?_
       rw [hVV]
       simp -dsimp +decide (disch := omega) only [vp0, ty, en, ↓reduceIte, sE, hij, hVj1, k2, gu1, hxr]
       refine (witemA (h.upd _) hS2 (by rw [List.length_append, h8]; omega) hxo.s hx2).det' ?_
       rw [hVV]
       have hstep : A2 ++ (t.outs.take k).flatMap TOut.b ++ lo8 x.value 8 ++ itemB x.sc.b = A2 ++ (t.outs.take (k + 1)).flatMap TOut.b := by
        rw [List.take_add_one, hx, List.flatMap_append]
        simp [TOut.b]
       rw [hstep]
       simp -dsimp +decide (disch := omega) only [vt2, vq, ↓reduceIte, Nat.reduceAdd, vi, vt, sE, hij, hVj1, k2]
       refine ⟨⟨k + 1, ⟨by omega, by omega⟩, ⟨?_, rfl⟩, ?_⟩, ?_⟩
       . rw [if_neg (by simp; omega)]
       . rw [<- upd_len V i j (A2 ++ (t.outs.take (k + 1)).flatMap TOut.b), vt.1, List.map_append, upd_len, hwV]
         rw [show List.take 1 [AObj.cells 63 t.cs, AObj.cells 71 x.cs] = [AObj.cells 63 t.cs] from rfl, hcells hr.2.2.2.2.2.2.2.1]
       . exact subEW (subEW (subE_refl _))
     . have e : k = t.outs.length := by omega
       subst e
       rw [List.take_length] at hWe
       rw [<- hUl]
       have wW := hwV (A2 ++ t.outs.flatMap TOut.b)
       rw [<- hWe, <- hUl] at wW
       simp -dsimp +decide (disch := omega) only [vt2, vze, vze, vp0, ↓reduceIte, Nat.reduceAdd, vt, hr, wW]
       exact ⟨(), by rw [hWe]⟩
   . rintro _ g tmp -
     simp -dsimp +decide (disch := omega) only [vp0, ↓reduceIte, Nat.reduceAdd]
     have hb : A2 ++ t.outs.flatMap TOut.b = out ++ t.body := by rw [hA2e, hA1e, hA, TTx.body]; simp
     rw [hb]
     refine Vw.cutN V.length (Nat.le_refl _) ?_
     rw [show List.take V.length (upd V i j (out ++ t.body) ++ [AObj.cells 63 t.cs]) = upd V i j (out ++ t.body) by rw [<- upd_len V i j (out ++ t.body), List.take_left], upd_wo (V := V) (i := i) (j := j) wt.2.1 (decide_eq_false (by omega))]
     exact Vw.done ⟨by rw [AV.wo]; rfl, rfl, rfl⟩
theorem adoptCall {P : Program} {G : Nat -> AV} {T : Tbl} {K K' : AV -> Tbl -> Eff -> Prop} {f : FuncId} {args : List AV} {i k : Nat} {Ec : TypeId} {cs : List AV} (El : TypeId) (sz : Nat) (h0 : 0 < sz) (hT : T[i]? = some (.cells Ec cs)) (hk : cs[k]? = some (.p (.slice none 0 0)))
 (h : CallA P G f args (T.set i (.cells Ec (cs.set k (.sl T.length 0 0))) ++ [.buf El sz []]) K') (hk' : ∀ v T' es, K' v T' es -> K v T' (es ++ [(i, false)])) : CallA P G f args T K := by
 intro Z ρ w vs hG hs ha
 obtain ⟨k1, k2⟩ := hs.push (w' := w) ⟨none, 0, true⟩ (.buf El sz []) hs.of (fun _ _ => rfl) ⟨⟨rfl, h0⟩, 0, by simp, Nat.le_refl _, .inl ⟨rfl, rfl, rfl⟩⟩ (fun b hb => by cases hb)
 have hiT := (List.getElem?_eq_some_iff.1 hT).1
 have hT' : (T ++ [.buf El sz []])[i]? = some (.cells Ec cs) := by rw [List.getElem?_append_left hiT]; exact hT
 obtain ⟨x, hx⟩ : ∃ x, (ρ ++ [⟨none, 0, true⟩])[i]? = some x := ⟨_, List.getElem?_eq_getElem (by have := hs.len; simp; omega)⟩
 obtain ⟨h3, b, us, g1, g2, g3⟩ := k1.obj _ _ _ hT' hx
 obtain ⟨v, hv, hr⟩ := g3.get hk
 have := hr.p_inv; subst this
 have h4 := g3.set (a := .sl T.length 0 0) (v := .slice none 0 0) (.sl (x := ⟨none, 0, true⟩) (by rw [<- hs.len]; simp) (fun _ => rfl) (Nat.le_refl _) (fun _ _ => rfl)) k
 have e : us.set k (.slice none 0 0) = us := by
  refine List.ext_getElem? fun j => ?_
  rw [List.getElem?_set]
  by_cases hj : k = j
  . subst hj
    obtain ⟨hl, he⟩ := List.getElem?_eq_some_iff.1 hv
    rw [if_pos rfl, if_pos hl, hv]
  . rw [if_neg hj]
 rw [e] at h4
 obtain ⟨k3, k4⟩ := k1.write (w' := w) hT' hx rfl (.cells Ec (cs.set k (.sl T.length 0 0))) rfl (fun _ _ => rfl) ⟨rfl, rfl⟩ ⟨h3, b, us, g1, g2, h4⟩
 have e2 : (T ++ [AObj.buf El sz []]).set i (.cells Ec (cs.set k (.sl T.length 0 0))) = T.set i (.cells Ec (cs.set k (.sl T.length 0 0))) ++ [.buf El sz []] := List.set_append_left _ _ hiT
 rw [e2] at k3 k4
 have k5 := k2.trans k4
 have ha2 : RelL Z (ρ ++ [⟨none, 0, true⟩]) args vs := slots_rel ha k2
 exact (h Z _ w vs hG k3 ha2).mono fun v w' ⟨Z'', ρ', T', es, a, q1, q2, q3, q4⟩ => ⟨Z'', ρ', T', _, a, q1, k5.trans q2, q3, hk' _ _ _ q4⟩
theorem slots_EW' (i j : Nat) : (∀ l, slots (EW i j ++ [(i, false)]) l = l.map (AV.wo (· == j))) /\ (∀ l, slotsT (EW i j ++ [(i, false)]) l = l.map fun p => (p.1, p.2.wo (· == j))) := by
 have e : moved (EW i j ++ [(i, false)]) = (· == j) := by
  funext m
  simp only [EW, List.cons_append, List.nil_append, moved, Bool.true_and, Bool.false_and, Bool.or_false]
  rw [Bool.eq_iff_iff]; simp
 exact ⟨fun l => by show l.map (AV.wo (moved (EW i j ++ [(i, false)]))) = _; rw [e], fun l => by show (l.map fun p => (p.1, p.2.wo (moved (EW i j ++ [(i, false)])))) = _; rw [e]⟩
theorem bareT_ok {T : Tbl} {t : TTx} (ok : t.Ok) (il : t.ins.length <= 10000) (ol : t.outs.length <= 10000) : CallA prog G 52 [.ag t.cs] T fun v T' es => v = .vs (t.bare.map by8) t.bare.length /\ T' = T /\ es = [] := by
 refine CallA.wfs fun wf => ?_
 have wt := wf.t
 have wp := wf.p
 have hr := TTx.rules ok
 have g0 := fun l => gn0 T (.cells 63 t.cs) l
 have hW : ∀ o : List UInt8, Wr (T ++ [.cells 63 t.cs, .cells 180 [.sl (T.length + 2) 0 o.length], .buf 5 1 (o.map by8)]) (T.length + 1) (T.length + 2) o := fun o => by
  refine ⟨gn1 T _ _ _, gn2 T _ _ _ _, ?_⟩
  have e1 : AObj.wo (fun m => m == T.length + 2) (.buf 5 1 (o.map by8)) = .buf 5 1 (o.map by8) := by rw [AObj.wo, wb8]
  have e2 : AObj.wo (fun m => m == T.length + 2) (.cells 180 [.sl (T.length + 2) 0 o.length]) = .cells 180 [.any] := by
   rw [AObj.wo]; simp [AV.wo]
  have e3 : AObj.wo (fun m => m == T.length + 2) (.cells 63 t.cs) = .cells 63 t.cs := by rw [AObj.wo, hr.2.2.2.2.2.2.2.1]
  rw [List.map_append, wt.2.2.1 2, List.map_cons, List.map_cons, List.map_cons, e1, e2, e3, List.set_append_right _ _ (by omega), show T.length + 1 - T.length = 1 by omega]
  rfl
 have hupd : ∀ o o2 : List UInt8, upd (T ++ [.cells 63 t.cs, .cells 180 [.sl (T.length + 2) 0 o.length], .buf 5 1 (o.map by8)]) (T.length + 1) (T.length + 2) o2 = T ++ [.cells 63 t.cs, .cells 180 [.sl (T.length + 2) 0 o2.length], .buf 5 1 (o2.map by8)] := fun o o2 => by
  rw [upd, List.set_append_right _ _ (by omega), show T.length + 2 - T.length = 2 by omega, List.set_append_right _ _ (by omega), show T.length + 1 - T.length = 1 by omega]
  rfl
 have sE := slots_EW (T.length + 1) (T.length + 2)
 have rE : ∀ E, recE T.length (EW (T.length + 1) (T.length + 2)) E = E := fun E => by simp only [EW, recE, rec1]; rw [if_neg (by omega), if_neg (by omega), if_neg (by omega)]
 have h8 := fun n => lo8_len n 4
 have hbl := TTx.body_le ok
 have gW := fun o : List UInt8 => (hW o).gi
 refine CallA.eV 4 func52 ntmps52 results52 ?_
 simp -dsimp +decide only [vp0, ty, ↓reduceIte, Nat.reduceSub]
 simp -dsimp +decide (disch := omega) only [vr, ty, en, ↓reduceIte, hr]
 refine adoptCall (k := 0) (K' := fun v T' es => v = .tu [] /\ T' = T ++ [.cells 63 t.cs, .cells 180 [.sl (T.length + 2) 0 (lo8 t.v.toUInt64 4).length], .buf 5 1 ((lo8 t.v.toUInt64 4).map by8)] /\ es = EW (T.length + 1) (T.length + 2)) 5 1 (by decide) (gn1 T _ _ []) rfl ?_ ?_
 . have hV : (T ++ [AObj.cells 63 t.cs, .cells 180 [AV.p (.slice none 0 0)]]).set (T.length + 1) (.cells 180 ([AV.p (.slice none 0 0)].set 0 (.sl (T ++ [AObj.cells 63 t.cs, .cells 180 [AV.p (.slice none 0 0)]]).length 0 0))) ++ [.buf 5 1 []] = T ++ [.cells 63 t.cs, .cells 180 [.sl (T.length + 2) 0 ([] : List UInt8).length], .buf 5 1 (([] : List UInt8).map by8)] := by
    rw [List.length_append, List.set_append_right _ _ (by omega), show T.length + 1 - T.length = 1 by omega, List.append_assoc]
    rfl
   rw [hV]
   refine (wnum_ok (hW []) (by simp) (x := t.v.toUInt64) (k := 4) (by omega)).mono fun v T' es ⟨h1, h2, h3⟩ => ⟨h1, by rw [h2, hupd]; rfl, h3⟩
 rintro v T' es ⟨rfl, rfl, rfl⟩
 have sE' := slots_EW' (T.length + 1) (T.length + 2)
 have rE' : ∀ E, recE T.length (EW (T.length + 1) (T.length + 2) ++ [(T.length + 1, false)]) E = E := fun E => by simp only [EW, List.cons_append, List.nil_append, recE, rec1]; rw [if_neg (by omega), if_neg (by omega), if_neg (by omega), if_neg (by omega)]
 simp -dsimp +decide (disch := omega) only [vp0, ty, en, ↓reduceIte, sE', rE', hr, g0]
 refine (wbody_ok (hW _) (by rw [h8]; omega) ok il ol).det' ?_
 rw [hupd]
 simp -dsimp +decide (disch := omega) only [vr, ty, en, ↓reduceIte, sE, rE, hr, g0]
 have hb4 : (lo8 t.v.toUInt64 4 ++ t.body).length = 4 + t.body.length := by rw [List.length_append, h8]
 refine (wnum_ok (hW _) (by omega) (x := t.lock.toUInt64) (k := 4) (by omega)).det' ?_
 rw [hupd]
 simp -dsimp +decide (disch := omega) only [va, ty, ↓reduceIte, sE, rE, hr, gW]
 refine Vw.pub (T.length + 2) (o := .buf 5 1 (t.bare.map by8)) (gn2 T _ _ _ _) rfl (clean8 _) ?_
 simp -dsimp +decide only [va, vl, ↓reduceIte, wp]
 exact Vw.cut ⟨rfl, rfl, rfl⟩
theorem idT_ok {T : Tbl} {t : TTx} (ok : t.Ok) (il : t.ins.length <= 10000) (ol : t.outs.length <= 10000) : CallA prog G 23 [.ag t.cs] T fun v T' es => v = .ag (t.id.map by8) /\ T' = T /\ es = [] := by
 refine CallA.wfs fun wf => ?_
 have hr := TTx.rules ok
 have hi := t.id_len
 refine CallA.eV 3 func23 ntmps23 results23 ?_
 simp -dsimp +decide only [vp0, ty, en, ↓reduceIte, Nat.reduceSub]
 simp -dsimp +decide (disch := omega) only [vc, hr, ez32]
 refine (bareT_ok ok il ol).det' ?_
 simp -dsimp +decide (disch := omega) only [va, en, ↓reduceIte, hr]
 refine (twice_ok (Bs.vs _)).det' ?_
 rw [show twice t.bare = t.id from rfl]
 simp -dsimp +decide (disch := omega) only [vq, ty, ↓reduceIte, Nat.reduceLT, vh, hi, List.drop_zero]
 exact Vw.cut ⟨by rw [AV.wo, AV.woL_eq, wb8], rfl, rfl⟩
abbrev H8 : List UInt8 -> List AV := fun h => h.map by8
def lf32 : List Lf := List.replicate 32 (.i .u8)
theorem ktH : KT prog 33 lf32 := ⟨(by kernel_rfl), (by kernel_rfl), (by kernel_rfl), (by kernel_rfl), Nat.le_of_ble_eq_true (by kernel_rfl), (by kernel_rfl)⟩
theorem fitH {l : List UInt8} (h : l.length = 32) : FitL lf32 (l.map fun b => .int .u8 (b.toNat : Int)) := by
 have := FitL.u8 l
 rwa [h] at this
def hv (l : List UInt8) : Value := .agg (l.map fun b => .int .u8 (b.toNat : Int)).toArray
theorem hv_inj {l m : List UInt8} (h : hv l = hv m) : l = m := by
 unfold hv at h
 have h := List.toArray_inj (Value.agg.inj h)
 exact (List.map_inj_right (f := fun b : UInt8 => Value.int .u8 (b.toNat : Int)) (fun x y e => by simp at e; exact UInt8.toNat_inj.1 (by omega))).1 h
theorem plains8 (l : List UInt8) : plains (l.map by8) = some (l.map fun b => .int .u8 (b.toNat : Int)) := plains_map' _ _
open Classical in
theorem eqH {l m : List UInt8} (hl : l.length = 32) (hm : m.length = 32) (xo yo : Operand) (K : AV -> Prop) : binA prog .eql 33 (.ag (l.map by8)) (.ag (m.map by8)) xo yo K = K (.p (.bool (decide (l = m)))) := by
 show getO (plains (l.map by8)) (fun _ => getO (AV.flat (.ag (m.map by8))) fun b => _) = _
 rw [plains8]
 show getO (AV.flat (.ag (m.map by8))) (fun b => _) = _
 simp only [AV.flat, plains8, Option.map_some, getO]
 rw [ktH.eql (fitH hl) (fitH hm)]
 congr 3
 rw [Bool.eq_iff_iff, decide_eq_true_iff, decide_eq_true_iff]
 exact ⟨fun h => hv_inj (by unfold hv; rw [h]), fun h => by rw [h]⟩
open Classical in
theorem neH {l m : List UInt8} (hl : l.length = 32) (hm : m.length = 32) (xo yo : Operand) (K : AV -> Prop) : binA prog .neq 33 (.ag (l.map by8)) (.ag (m.map by8)) xo yo K = K (.p (.bool (!decide (l = m)))) := by
 show getO (plains (l.map by8)) (fun _ => getO (AV.flat (.ag (m.map by8))) fun b => _) = _
 rw [plains8]
 show getO (AV.flat (.ag (m.map by8))) (fun b => _) = _
 simp only [AV.flat, plains8, Option.map_some, getO]
 rw [ktH.neq (fitH hl) (fitH hm)]
 congr 4
 rw [Bool.eq_iff_iff, decide_eq_true_iff, decide_eq_true_iff]
 exact ⟨fun h => hv_inj (by unfold hv; rw [h]), fun h => by rw [h]⟩
theorem tk32 (l : List UInt8) (h : l.length = 32) : List.take 32 (List.drop 0 l) = l := by rw [List.drop_zero, List.take_of_length_le (by omega)]
def H32 (hs : List (List UInt8)) : Prop := ∀ h ∈ hs, h.length = 32
theorem has_ok {T : Tbl} {a : AV} {hs : List (List UInt8)} {x : List UInt8} (hb : Es T 32 H8 a hs) (hx : x.length = 32) (hl : hs.length <= 1099511627776) :
 CallA prog G 57 [a, .ag (x.map by8)] T fun v T' es => v = .p (.bool (decide (x ∈ hs))) /\ T' = T /\ es = [] := by
 have hr := Sl.rules hb.sl (by decide)
 have hld := hb.ld (P := prog) (t := 33) (by (simp -dsimp +decide only [])) (by (simp -dsimp +decide only [])) (by decide)
 refine CallA.wfs fun wf => ?_
 refine CallA.eV 6 func57 ntmps57 results57 ?_
 simp -dsimp +decide only [vp0, ↓reduceIte, Nat.reduceSub, Nat.reduceAdd]
 refine SemA.loopL (fun i : Nat => [(0, a), (3, .ptr T.length 0), (4, .p (.bool false)), (5, wint (i : Int))]) (fun _ => T ++ [.cells 33 (x.map by8)]) (fun i => i <= hs.length /\ x ∉ hs.take i) (fun i => hs.length - i) 0 [] (by kernel_rfl) ⟨by omega, by simp⟩ (by (simp -dsimp +decide only [vq, Nat.reduceAdd, ci])) rfl (by simp) ?_
 rintro i g ⟨hi, hn⟩
 simp -dsimp +decide only [vq, ty, ↓reduceIte, Nat.reduceAdd, hr]
 refine CondP.dec (fun h => ?_) (fun h => ?_)
 . obtain ⟨y, hy⟩ : ∃ y, hs[i]? = some y := ⟨hs[i]'(by omega), by simp⟩
   have hy32 := hb.wd y (List.mem_of_getElem? hy)
   have hy32' : y.length = 32 := by simpa using hy32
   simp -dsimp +decide only [va]
   refine SemA.drawS (.fl 0 (.fl 1 (.fl 2 (.fl 3 (.fl 4 (.fl 5 .nil)))))) mixed (by kernel_rfl) ?_
   simp -dsimp +decide (disch := omega) only [vy, vq, ty, ↓reduceIte, hld, hy, hr, eqH hy32' hx, tk32 x hx]
   refine ⟨⟨by omega, by omega⟩, by omega, CondP.split (fun h => ?_) (fun h => ?_)⟩
   . rw [decide_eq_true_iff] at h
     simp -dsimp +decide (disch := omega) only [va, ↓reduceIte]
     refine Vw.cut ⟨?_, rfl, rfl⟩
     rw [decide_eq_true (by rw [<- h]; exact List.mem_of_getElem? hy)]; rfl
   . rw [decide_eq_false_iff_not] at h
     simp -dsimp +decide (disch := omega) only [vq, ↓reduceIte, Nat.reduceAdd, vi]
     refine ⟨i + 1, ⟨by omega, ?_⟩, by omega, rfl⟩
     rw [List.take_add_one, hy]
     simp only [List.mem_append, not_or]
     exact ⟨hn, by simpa using fun e => h e.symm⟩
 . simp -dsimp +decide (disch := omega) only [va, ↓reduceIte]
   refine Vw.cut ⟨?_, rfl, rfl⟩
   rw [List.take_of_length_le (by omega)] at hn
   rw [decide_eq_false hn]; rfl
theorem h8 {l : List (List UInt8)} (h : H32 l) : ∀ x ∈ l, (H8 x).length = 32 := fun x hx => by simpa using h x hx
def uniqF (acc : List (List UInt8)) : List (List UInt8) -> List (List UInt8)
 | [] => acc
 | h :: r => uniqF (if h ∈ acc then acc else acc ++ [h]) r
def uniq (l : List (List UInt8)) : List (List UInt8) := uniqF [] l
theorem uniqF_mem : ∀ (l acc : List (List UInt8)) (x : List UInt8), x ∈ uniqF acc l ↔ x ∈ acc ∨ x ∈ l
 | [], acc, x => by simp [uniqF]
 | h :: r, acc, x => by
   rw [uniqF, uniqF_mem r]
   split
   . rename_i hh; constructor
     . rintro (h1 | h1) <;> simp [h1]
     . rintro (h1 | h1)
       . exact .inl h1
       . rcases List.mem_cons.1 h1 with rfl | h1
         . exact .inl hh
         . exact .inr h1
   . simp [or_assoc]
theorem uniqF_len : ∀ (l acc : List (List UInt8)), (uniqF acc l).length <= acc.length + l.length
 | [], acc => by simp [uniqF]
 | h :: r, acc => by
   rw [uniqF]
   have h1 := uniqF_len r (if h ∈ acc then acc else acc ++ [h])
   have h2 : (if h ∈ acc then acc else acc ++ [h]).length <= acc.length + 1 := by split <;> simp
   rw [List.length_cons]; omega
theorem uniqF_nodup : ∀ (l acc : List (List UInt8)), acc.Nodup -> (uniqF acc l).Nodup
 | [], acc, h => h
 | h :: r, acc, ha => by
   rw [uniqF]
   refine uniqF_nodup r _ ?_
   split
   . exact ha
   . rename_i hh
     rw [List.nodup_append]
     refine ⟨ha, by simp, fun a h1 b h2 => ?_⟩
     simp at h2; subst h2; rintro rfl; exact hh h1
theorem uniq_32 {l : List (List UInt8)} (h : H32 l) : H32 (uniq l) := fun x hx => by
 rw [uniq, uniqF_mem] at hx
 rcases hx with hx | hx
 . cases hx
 . exact h x hx
theorem clean8f (l : List (List UInt8)) : ∀ a ∈ l.flatMap H8, a.Clean := by
 intro a ha; obtain ⟨x, _, hx⟩ := List.mem_flatMap.1 ha; exact clean8 x a hx
theorem z32_eq : ([.p (.int .u8 0), .p (.int .u8 0), .p (.int .u8 0), .p (.int .u8 0), .p (.int .u8 0), .p (.int .u8 0), .p (.int .u8 0), .p (.int .u8 0), .p (.int .u8 0), .p (.int .u8 0), .p (.int .u8 0), .p (.int .u8 0), .p (.int .u8 0), .p (.int .u8 0), .p (.int .u8 0), .p (.int .u8 0), .p (.int .u8 0), .p (.int .u8 0), .p (.int .u8 0), .p (.int .u8 0), .p (.int .u8 0), .p (.int .u8 0), .p (.int .u8 0), .p (.int .u8 0), .p (.int .u8 0), .p (.int .u8 0), .p (.int .u8 0), .p (.int .u8 0), .p (.int .u8 0), .p (.int .u8 0), .p (.int .u8 0), .p (.int .u8 0)] : List AV) = z32 := rfl
theorem rep1 (l : List AV) : (List.replicate 1 l).flatten = l := by simp
theorem wr32 (y : List UInt8) (h : y.length = 32) : wrA z32 0 (List.map by8 y) = List.map by8 y := wrA_all (by simp [z32_len, h])
theorem ones8 (y : List UInt8) : ones (List.map by8 y) = true := by
 rw [ones, List.all_eq_true]
 intro a ha; obtain ⟨x, _, rfl⟩ := List.mem_map.1 ha; rfl
theorem wo8 (q : Nat -> Bool) (y : List UInt8) : (List.map by8 y).map (AV.wo q) = List.map by8 y := by
 rw [List.map_map]
 refine List.map_congr_left fun x _ => ?_
 show AV.wo q (.p _) = _
 rw [AV.wo]; rfl
theorem wo8f (q : Nat -> Bool) (l : List (List UInt8)) : (l.flatMap H8).map (AV.wo q) = l.flatMap H8 := by
 rw [List.map_flatMap]
 simp only [wo8]
theorem runlike_ok {T : Tbl} {a : AV} {hs : List (List UInt8)} (hb : Es T 32 H8 a hs) (hl : hs.length <= 1099511627776) :
 CallA prog G 27 [a] T fun v T' es => v = .vs ((uniq hs).flatMap H8) (uniq hs).length /\ T' = T /\ es = [] := by
 have hr := Sl.rules hb.sl (by decide)
 have hld := hb.ld (P := prog) (t := 33) (by (simp -dsimp +decide only [])) (by (simp -dsimp +decide only [])) (by decide)
 refine CallA.wfs fun wf => ?_
 have wt := wf.t
 have wp := wf.p
 have wa := wf.arg a (by simp)
 refine CallA.eV 5 func27 ntmps27 results27 ?_
 simp -dsimp +decide only [vp0, ↓reduceIte, Nat.reduceSub]
 refine SemA.adopt 3 33 32 (by decide) rfl ?_
 simp -dsimp +decide only [va]
 refine SemA.loopC (fun s : Nat × List (List UInt8) => [(0, a), (3, .sl T.length 0 s.2.length), (4, wint (s.1 : Int))]) (fun s => T ++ [.buf 33 32 (s.2.flatMap H8)]) (fun s => s.1 <= hs.length /\ s.2.length <= s.1 /\ H32 s.2 /\ uniqF s.2 (hs.drop s.1) = uniq hs) (fun s => hs.length - s.1) (T.length + 1) (0, []) [] (by kernel_rfl) (by omega) ⟨by simp, by simp, (fun _ h => nomatch h), rfl⟩ (by (simp -dsimp +decide only [vq, Nat.reduceAdd, ci]); rfl) rfl (by simp) ?_
 rintro ⟨i, acc⟩ g ⟨hi, hacc, h32, hu⟩
 dsimp only at hi hacc h32 hu
 simp -dsimp +decide only [vq, ty, ↓reduceIte, Nat.reduceAdd, hr]
 refine CondP.dec (fun h => ?_) (fun h => ?_)
 . obtain ⟨y, hy⟩ : ∃ y, hs[i]? = some y := ⟨hs[i]'(by omega), by simp⟩
   have hy32' : y.length = 32 := by simpa using hb.wd y (List.mem_of_getElem? hy)
   have hd : hs.drop i = y :: hs.drop (i + 1) := by
    obtain ⟨h1, rfl⟩ := List.getElem?_eq_some_iff.1 hy
    exact List.drop_eq_getElem_cons h1
   rw [hd, uniqF] at hu
   simp -dsimp +decide (disch := omega) only [vp0, ty, en, ↓reduceIte, hld, hy, hr]
   repeat (refine And.intro (by omega) ?_)
   refine (has_ok (hs := acc) (Es.obj (xs := acc) (o := .buf 33 32 (acc.flatMap H8)) (by (simp -dsimp +decide only [va])) rfl (h8 h32)) hy32' (by omega)).det ?_
   simp -dsimp +decide (disch := omega) only [vp0, ↓reduceIte]
   refine CondP.ndec (fun h => ?_) (fun h => ?_)
   . rw [if_neg h] at hu
     have hfl := flat_len (f := H8) (h8 h32)
     have hwr := wr32 y hy32'
     have hon := ones8 y
     simp -dsimp +decide (disch := omega) only [vq, ty, ↓reduceIte, Nat.reduceAdd, Nat.reduceMul, vi, hld, hy, hr, vt, wt, wa, tk32 y hy32', hfl, z32_eq, rep1, z32_len, hwr, hon, wo8f, hy32']
     repeat (refine And.intro (by omega) ?_)
     refine ⟨(i + 1, acc ++ [y]), ⟨by dsimp only; omega, by simp; omega, ?_, hu⟩, by dsimp only; omega, by first | rfl | (and_intros <;> first | rfl | (simp; done)), ?_⟩
     . intro x hx
       rcases List.mem_append.1 hx with hx | hx
       . exact h32 x hx
       . simp at hx; subst hx; exact hy32'
     . simp
   . rw [if_pos h] at hu
     simp -dsimp +decide (disch := omega) only [vq, ↓reduceIte, Nat.reduceAdd, vi, vt, wt, wa, wo8f]
     exact ⟨(i + 1, acc), ⟨by dsimp only; omega, by dsimp only; omega, h32, hu⟩, by dsimp only; omega, by first | rfl | (and_intros <;> first | rfl | (simp; done)), rfl⟩
 . simp -dsimp +decide (disch := omega) only [va, ↓reduceIte]
   have hd : hs.drop i = [] := List.drop_eq_nil_of_le (by omega)
   rw [hd, uniqF] at hu
   refine Vw.pub T.length (o := .buf 33 32 (acc.flatMap H8)) (by (simp -dsimp +decide only [va])) rfl (clean8f acc) ?_
   simp -dsimp +decide only [va, ↓reduceIte, wp]
   refine Vw.cut ⟨?_, rfl, rfl⟩
   rw [<- hu]; rfl
def joinH (a b : List UInt8) : List UInt8 := twice (a ++ b)
def atH (l : List (List UInt8)) (k : Nat) : List UInt8 := l[min k (l.length - 1)]?.getD []
def aboveH : List (List UInt8) -> List (List UInt8)
 | [] => []
 | [a] => [joinH a a]
 | a :: b :: r => joinH a b :: aboveH r
theorem join10_ok {T : Tbl} {a b : List UInt8} (ha : a.length = 32) (hb : b.length = 32) : CallA prog G 87 [.ag (a.map by8), .ag (b.map by8)] T fun v T' es => v = .ag ((joinH a b).map by8) /\ T' = T /\ es = [] := by
 refine CallA.wfs fun wf => ?_
 have wt := wf.t
 have hi := twice_len (a ++ b)
 have hl : (a ++ b).length = 64 := by rw [List.length_append, ha, hb]
 refine CallA.eV 6 func87 ntmps87 results87 ?_
 simp -dsimp +decide only [vq, ty, ↓reduceIte, Nat.reduceSub, Nat.reduceAdd]
 have z32w : ∀ q, z32.map (AV.wo q) = z32 := fun q => wb8 q _
 simp -dsimp +decide (disch := omega) only [vq, ty, en, ↓reduceIte, Nat.reduceAdd, vt, wt, vh, ha, hb, ez32, z32w, List.drop_zero]
 have hbs : Bs (T ++ [.cells 33 (a.map by8), .cells 33 (b.map by8), .cells 33 z32, .buf 5 1 ((a ++ b).map by8)]) (.sl (T.length + 3) 0 64) (a ++ b) := by
  have := Bs.obj (bs := a ++ b) (gn3 T (.cells 33 (a.map by8)) (.cells 33 (b.map by8)) (.cells 33 z32) (.buf 5 1 ((a ++ b).map by8)) []) rfl
  rwa [hl] at this
 refine (rtwice_ok hbs (by omega)).det' ?_
 rw [show twice (a ++ b) = joinH a b from rfl] at hi ⊢
 simp -dsimp +decide (disch := omega) only [vq, ty, ↓reduceIte, Nat.reduceLT, vh, hi, List.drop_zero]
 exact Vw.cut ⟨by rw [AV.wo, AV.woL_eq, wb8], rfl, rfl⟩
theorem at10_ok {T : Tbl} {a : AV} {l : List (List UInt8)} (h : H32 l) (hb : Es T 32 H8 a l) (hl : l.length <= 1000000) (h0 : 0 < l.length) {k : Nat} (hk : k <= 1000000) : CallA prog G 88 [a, wint (k : Int)] T fun v T' es => v = .ag ((atH l k).map by8) /\ T' = T /\ es = [] := by
 refine CallA.wfs fun wf => ?_
 have hsr := Sl.rules hb.sl (by decide)
 have hld := hb.ld (P := prog) (t := 33) (by (simp -dsimp +decide only [])) (by (simp -dsimp +decide only [])) (by decide)
 obtain ⟨x, hx⟩ : ∃ x, l[min k (l.length - 1)]? = some x := ⟨l[min k (l.length - 1)]'(by omega), by simp⟩
 have hx32 := h x (List.mem_of_getElem? hx)
 have hmn : min (k : Int) ((l.length : Int) - 1) = ((min k (l.length - 1) : Nat) : Int) := by omega
 rw [show atH l k = x by rw [atH, hx]; rfl]
 refine CallA.eV 5 func88 ntmps88 results88 ?_
 simp -dsimp +decide only [vq, ty, ↓reduceIte, Nat.reduceSub, Nat.reduceAdd]
 simp -dsimp +decide (disch := omega) only [vq, ty, ↓reduceIte, Nat.reduceLT, vi, vh, hsr, vmm, hmn, hld, hx, hx32, ez32, List.drop_zero]
 exact ⟨⟨by omega, by omega⟩, Vw.cut ⟨by rw [AV.wo, AV.woL_eq, wb8], rfl, rfl⟩⟩
theorem aboveH_len : ∀ l : List (List UInt8), (aboveH l).length = (l.length + 1) / 2
 | [] => rfl
 | [a] => by rw [aboveH, List.length_cons, List.length_cons, List.length_nil]
 | a :: b :: r => by rw [aboveH, List.length_cons, aboveH_len r, List.length_cons, List.length_cons]; omega
theorem aboveH_at : ∀ (l : List (List UInt8)) (m : Nat), 2 * m < l.length -> (aboveH l)[m]? = some (joinH (l[2 * m]?.getD []) (atH l (2 * m + 1)))
 | [], m, h => by simp at h
 | [a], 0, h => rfl
 | [a], m + 1, h => by simp at h
 | a :: b :: r, 0, h => by
   show some (joinH a b) = _
   have : atH (a :: b :: r) (2 * 0 + 1) = b := by
    rw [atH, Nat.min_eq_left (by simp)]; rfl
   rw [this]; rfl
 | a :: b :: r, m + 1, h => by
   have h2 : 2 * m < r.length := by simp at h; omega
   rw [aboveH, List.getElem?_cons_succ, aboveH_at r m h2, show 2 * (m + 1) = 2 * m + 1 + 1 by omega, List.getElem?_cons_succ, List.getElem?_cons_succ]
   have : atH (a :: b :: r) (2 * m + 1 + 1 + 1) = atH r (2 * m + 1) := by
    rw [atH, atH, List.length_cons, List.length_cons, show min (2 * m + 1 + 1 + 1) (r.length + 1 + 1 - 1) = min (2 * m + 1) (r.length - 1) + 1 + 1 by omega, List.getElem?_cons_succ, List.getElem?_cons_succ]
   rw [this]
theorem joinH_len (a b : List UInt8) : (joinH a b).length = 32 := twice_len _
theorem aboveH_32 : ∀ l : List (List UInt8), H32 (aboveH l)
 | [] => by intro x hx; cases hx
 | [a] => by intro x hx; simp [aboveH] at hx; subst hx; exact joinH_len _ _
 | a :: b :: r => by
   intro x hx
   rw [aboveH] at hx
   rcases List.mem_cons.1 hx with rfl | hx
   . exact joinH_len _ _
   . exact aboveH_32 r x hx
theorem keep_front (T l : Tbl) : ∃ l', keepT (fun i => decide (i < T.length)) (T ++ l) = T ++ l' := by
 refine ⟨(keepT (fun i => decide (i < T.length)) (T ++ l)).drop T.length, ?_⟩
 conv => lhs; rw [<- List.take_append_drop T.length (keepT (fun i => decide (i < T.length)) (T ++ l))]
 congr 1
 refine List.ext_getElem? fun i => ?_
 rw [List.getElem?_take]
 split
 . rename_i h
   rw [keepT_get, List.getElem?_append_left h, List.getElem?_eq_getElem h]
   simp [keepO, h]
 . rename_i h
   rw [List.getElem?_eq_none (by omega)]
theorem take_flat {l : List (List UInt8)} {m : Nat} {x : List UInt8} (hx : l[m]? = some x) : (l.take (m + 1)).flatMap H8 = (l.take m).flatMap H8 ++ H8 x := by
 rw [List.take_add_one, hx, List.flatMap_append]; simp
theorem above10_ok {T : Tbl} {a : AV} {l : List (List UInt8)} (h : H32 l) (hb : Es T 32 H8 a l) (hl : l.length <= 1000) : CallA prog G 71 [a] T fun v T' es => v = .vs ((aboveH l).flatMap H8) (aboveH l).length /\ T' = T /\ es = [] := by
 refine CallA.wfs fun wf => ?_
 have wt := wf.t
 have wp := wf.p
 have wa := wf.arg a (by simp)
 have hal := aboveH_len l
 have hsr := Sl.rules hb.sl (by decide)
 have hld := hb.ld (P := prog) (t := 33) (by (simp -dsimp +decide only [])) (by (simp -dsimp +decide only [])) (by decide)
 have hfl : ∀ m, m <= (aboveH l).length -> (((aboveH l).take m).flatMap H8).length = m * 32 := fun m hm => by
  rw [flat_len (sz := 32) fun x hx => by simpa using aboveH_32 l x (List.mem_of_mem_take hx), List.length_take, Nat.min_eq_left hm]
 refine CallA.eV 5 func71 ntmps71 results71 ?_
 simp -dsimp +decide only [vp0, ↓reduceIte, Nat.reduceSub]
 refine SemA.adopt 3 33 32 (by decide) rfl ?_
 simp -dsimp +decide only [va]
 refine SemA.loopK (T.length + 1) (fun m : Nat => [(0, a), (3, .sl T.length 0 m), (4, wint ((2 * m : Nat) : Int))]) (fun m => T ++ [.buf 33 32 (((aboveH l).take m).flatMap H8)]) (fun m => m <= (aboveH l).length) (fun m => (aboveH l).length - m) 0 [] 0 (fun _ : Unit => [(3, .sl T.length 0 (aboveH l).length)]) (fun _ => T ++ [.buf 33 32 ((aboveH l).flatMap H8)]) (fun _ => True) (by omega) (by omega) (by (simp -dsimp +decide (disch := omega) only [vq, Nat.reduceAdd, Nat.reduceMul, ci]); first | rfl | done) rfl (by simp) ?_ ?_
 . rintro m g hm
   refine SemA.o ?_
   simp -dsimp +decide (disch := omega) only [vq, ty, ↓reduceIte, Nat.reduceAdd, hsr]
   refine CondP.dec (fun hc => ?_) (fun hc => ?_)
   . obtain ⟨x, hx⟩ : ∃ x, l[2 * m]? = some x := ⟨l[2 * m]'(by omega), by simp⟩
     have hx32 := h x (List.mem_of_getElem? hx)
     have hat := aboveH_at l m (by omega)
     rw [hx] at hat
     have hi2 : ((2 * m : Nat) : Int) + 1 = ((2 * m + 1 : Nat) : Int) := rfl
     have hflm := hfl m (by omega)
     have hy32 : (atH l (2 * m + 1)).length = 32 := by
      rw [atH]
      have : l[min (2 * m + 1) (l.length - 1)]? = some (l[min (2 * m + 1) (l.length - 1)]'(by omega)) := by simp
      rw [this]; exact h _ (List.getElem_mem _)
     have kf : ∀ l2, ∃ l', keepT (fun i => decide (i < T.length)) (T ++ l2) = T ++ l' := keep_front T
     have kld : ∀ (l2 : Tbl) (i : Nat) (K : AV -> Prop), i < l.length -> loadA prog 33 (a.pl (i * 32)) (keepT (fun i => decide (i < T.length)) (T ++ l2)) K = getO l[i]? fun x => K (.ag (H8 x)) := fun l2 i K hi => by
      obtain ⟨l', e⟩ := kf l2
      rw [e]; exact hld.1 l' i K hi
     have kix := fun (l2 : Tbl) (ik : IntKind) (z : Int) (K : AV -> Prop) => (show ixA 32 a (.p (.int ik z)) (keepT (fun i => decide (i < T.length)) (T ++ l2)) K = ((0 <= z /\ z < l.length) /\ K (a.pl (z.toNat * 32))) by
      obtain ⟨l', e⟩ := kf l2
      rw [e]; exact (hb.app l').sl.ix (by decide) ik z)
     have hjl := joinH_len x (atH l (2 * m + 1))
     refine SemA.draw (fun i => decide (i < T.length)) [(0, true), (1, true), (2, true), (3, true), (4, true), (5, true), (6, true), (7, true), (8, false), (9, false), (10, false), (11, false), (12, true)] mixed (by kernel_rfl) ?_
     simp -dsimp +decide (disch := omega) only [vp0, ty, en, ↓reduceIte, vi, kld, kix, hx, hi2]
     refine ⟨⟨by omega, by omega⟩, (at10_ok h (hb.app _) (by omega) (by omega) (k := 2 * m + 1) (by omega)).det' ?_⟩
     simp -dsimp +decide (disch := omega) only [vp0, en, ↓reduceIte]
     refine (join10_ok hx32 hy32).det' ?_
     simp -dsimp +decide (disch := omega) only [vt2, vze, vq, ty, ↓reduceIte, Nat.reduceAdd, Nat.reduceMul, vi, vt, wt, wa, hjl, ez32, rep1, wr32, hflm, vh, wo8f]
     refine ⟨⟨by omega, by omega⟩, .inl (by simp), m + 1, ⟨by omega, by omega⟩, ⟨rfl, ?_⟩, ?_⟩
     . exact congrArg (fun z : Int => AV.p (.int .i64 z)) (by omega)
     . rw [take_flat hat]
       rfl
   . have e : m = (aboveH l).length := by omega
     subst e
     rw [List.take_length]
     simp -dsimp +decide (disch := omega) only [vt2, vze, vp0, ↓reduceIte, Nat.reduceAdd, vt, wt, wo8f]
     exact ⟨(), trivial⟩
 . rintro _ g tmp -
   simp -dsimp +decide (disch := omega) only [vp0, ↓reduceIte, Nat.reduceAdd]
   refine Vw.pub T.length (o := .buf 33 32 ((aboveH l).flatMap H8)) (gn0 T _ []) rfl (clean8f _) ?_
   simp -dsimp +decide only [va, ↓reduceIte, wp]
   exact Vw.cut ⟨rfl, rfl, rfl⟩
def rootF : Nat -> List (List UInt8) -> List UInt8
 | 0, l => l.headD []
 | n + 1, l => if l.length <= 1 then l.headD [] else rootF n (aboveH l)
def rootH (l : List (List UInt8)) : List UInt8 := if l.length = 0 then h0b else rootF l.length l
theorem rootF_len : ∀ (n : Nat) (l : List (List UInt8)), H32 l -> 0 < l.length -> (rootF n l).length = 32
 | 0, l, h, h0 => by
   obtain ⟨x, r, rfl⟩ := List.exists_cons_of_length_pos h0
   exact h x (by simp)
 | n + 1, l, h, h0 => by
   rw [rootF]
   split
   . obtain ⟨x, r, rfl⟩ := List.exists_cons_of_length_pos h0
     exact h x (by simp)
   . exact rootF_len n _ (aboveH_32 l) (by rw [aboveH_len]; omega)
theorem rootH_len {l : List (List UInt8)} (h : H32 l) : (rootH l).length = 32 := by
 rw [rootH]
 split
 . rfl
 . exact rootF_len _ _ h (by omega)
theorem root10_ok {T : Tbl} {a : AV} {l : List (List UInt8)} (h : H32 l) (hb : Es T 32 H8 a l) (hl : l.length <= 1000) : CallA prog G 43 [a] T fun v T' es => v = .ag ((rootH l).map by8) /\ T' = T /\ es = [] := by
 refine CallA.wfs fun wf => ?_
 have wt := wf.t
 have wa := wf.arg a (by simp)
 have hsr := Sl.rules hb.sl (by decide)
 have z32w : ∀ q, z32.map (AV.wo q) = z32 := fun q => wb8 q _
 refine CallA.eV 4 func43 ntmps43 results43 ?_
 simp -dsimp +decide only [vp0, ty, ↓reduceIte, Nat.reduceSub]
 simp -dsimp +decide (disch := omega) only [vp0, ↓reduceIte, hsr, ez32]
 refine CondP.dec (fun h0 => ?_) (fun h0 => ?_)
 . rw [show rootH l = h0b by rw [rootH, if_pos (by omega)]]
   simp -dsimp +decide (disch := omega) only [vp0, ty, ↓reduceIte, ez32, List.drop_zero]
   have ew : wrA z32 0 z32 = z32 := wrA_all rfl
   rw [ew]
   exact Vw.cut ⟨rfl, rfl, rfl⟩
 . have hR : rootF l.length l = rootH l := by rw [rootH, if_neg (by omega)]
   simp -dsimp +decide (disch := omega) only [va]
   refine SemA.loopK (T.length + 1) (fun s : AV × List (List UInt8) × Nat => [(2, .ptr T.length 0), (3, s.1)]) (fun _ => T ++ [.cells 33 z32]) (fun s => H32 s.2.1 /\ (∀ e, Es (T ++ e) 32 H8 s.1 s.2.1) /\ (∀ k, s.1.wo (fun i => decide (T.length + k <= i)) = s.1) /\ s.2.1.length <= s.2.2 /\ s.2.2 <= 1000 /\ 0 < s.2.1.length /\ rootF s.2.2 s.2.1 = rootH l) (fun s => s.2.2) (a, l, l.length) [] 0 (fun s : AV × List UInt8 => [(2, .ptr T.length 0), (3, s.1)]) (fun _ => T ++ [.cells 33 z32]) (fun s => (∀ e, Es (T ++ e) 32 H8 s.1 [s.2]) /\ s.2 = rootH l) (by omega) ⟨h, fun e => hb.app e, wa.1, Nat.le_refl _, hl, by dsimp only; omega, hR⟩ (by (simp -dsimp +decide (disch := omega) only [vp0, Nat.reduceAdd]); first | rfl | done) rfl (by simp) ?_ ?_
   . rintro ⟨b, r, n⟩ g ⟨hr, hbr, hw, hrn, hn, hr0, hroot⟩
     dsimp only at hr hbr hw hrn hn hr0 hroot
     have hb1 : Es T 32 H8 b r := by have := hbr []; rwa [List.append_nil] at this
     have hsb := Sl.rules hb1.sl (by decide)
     refine SemA.o ?_
     have hln := fun e s K => (hbr e).sl.ln (K := K) s
     simp -dsimp +decide (disch := omega) only [vp0, ty, ↓reduceIte, Nat.reduceAdd, hsb]
     refine CondP.dec (fun hc => ?_) (fun hc => ?_)
     . simp -dsimp +decide (disch := omega) only [va, en, ↓reduceIte]
       refine (above10_ok hr (hbr _) (by omega)).det' ?_
       simp -dsimp +decide (disch := omega) only [vt2, vze, vp0, ↓reduceIte, Nat.reduceAdd, vt, wt, z32w]
       have hal := aboveH_len r
       refine ⟨(.vs ((aboveH r).flatMap H8) (aboveH r).length, aboveH r, n - 1), ⟨⟨aboveH_32 r, fun e => Es.vs (h8 (aboveH_32 r)), fun k => by rw [AV.wo], by dsimp only; omega, by dsimp only; omega, by dsimp only; omega, ?_⟩, by dsimp only; omega⟩, rfl⟩
       dsimp only
       rw [<- hroot, show n = n - 1 + 1 by omega, rootF, if_neg (by omega)]
       rfl
     . simp -dsimp +decide (disch := omega) only [vt2, vze, vp0, ↓reduceIte, Nat.reduceAdd, vt, wt, hw, z32w]
       obtain ⟨x, rfl⟩ : ∃ x, r = [x] := List.length_eq_one_iff.1 (by omega)
       refine ⟨(b, x), ⟨hbr, ?_⟩, rfl⟩
       rw [<- hroot]
       cases n with
       | zero => rfl
       | succ n => rw [rootF, if_pos (by simp)]; rfl
   . rintro ⟨b, x⟩ g tmp ⟨hbx, hx⟩
     dsimp only at hbx hx
     have hb1 : Es T 32 H8 b [x] := by have := hbx []; rwa [List.append_nil] at this
     have hsb := Sl.rules hb1.sl (by decide)
     have hld := hb1.ld (P := prog) (t := 33) (by (simp -dsimp +decide only [])) (by (simp -dsimp +decide only [])) (by decide)
     have hx32 : x.length = 32 := by rw [hx]; exact rootH_len h
     have h1 : ([x] : List (List UInt8)).length = 1 := rfl
     have hl0 : ∀ (l : Tbl) (K : AV -> Prop), loadA prog 33 (b.pl 0) (T ++ l) K = K (.ag (H8 x)) := fun l K => hld.1 l 0 K (by simp)
     simp -dsimp +decide (disch := omega) only [vq, ty, ↓reduceIte, Nat.reduceAdd, Nat.reduceLT, Int.reduceToNat, ci, hsb, hl0, h1, vh, hx32, List.drop_zero]
     rw [<- hx]
     exact Vw.cut ⟨by rw [AV.wo, AV.woL_eq, wb8], rfl, rfl⟩
theorem rsumS {T : Tbl} {a : AV} {bs : List UInt8} (hb : Bs T a bs) (hl : bs.length <= 1099511627776) : CallA prog G 26 [a] T fun v T' es => v = .ag ((sha bs).map by8) /\ T' = T /\ es = [] := by
 have := rsum_ok hb hl
 rwa [<- sha_eq] at this
def keyB (k : UInt8) : List UInt8 := [0, 20] ++ (sha [115, k, 0, 0, 0]).take 20
theorem keyB_len (k : UInt8) : (keyB k).length = 22 := by rw [keyB, List.length_append, List.length_take, sha_len]; rfl
theorem key15_ok {T : Tbl} {k : UInt8} : CallA prog G 28 [by8 k] T fun v T' es => v = .vs ((keyB k).map by8) (keyB k).length /\ T' = T /\ es = [] := by
 refine CallA.wfs fun wf => ?_
 have wt := wf.t
 have wp := wf.p
 have hs := sha_len [115, k, 0, 0, 0]
 have hk := keyB_len k
 refine CallA.eV 4 func28 ntmps28 results28 ?_
 simp -dsimp +decide only [vq, ty, ↓reduceIte, Nat.reduceSub, Nat.reduceAdd]
 simp -dsimp +decide (disch := omega) only [vp0, ty, en, ↓reduceIte, Nat.reduceAdd, vrp]
 refine (rsumS (bs := [115, k, 0, 0, 0]) (Bs.obj (gn0 T _ []) rfl) (by simp)).det' ?_
 have m20 : List.take 20 (List.map by8 (sha [115, k, 0, 0, 0])) = ((sha [115, k, 0, 0, 0]).take 20).map by8 := by rw [List.map_take]
 simp -dsimp +decide (disch := omega) only [vq, ty, ↓reduceIte, Nat.reduceAdd, Nat.reduceLT, Int.reduceToNat, vt, wt, ez32, vh, hs, vrp, List.drop_zero, m20]
 refine Vw.pub (T.length + 2) (o := .buf 5 1 ((keyB k).map by8)) (gn2 T _ _ _ _) rfl (clean8 _) ?_
 simp -dsimp +decide only [va, vl, ↓reduceIte, wp]
 rw [hk]
 exact Vw.cut ⟨rfl, rfl, rfl⟩
def lfp : List Lf := List.replicate 32 (.i .u8) ++ [.i .u32]
theorem ktp : KT prog 65 lfp := ⟨(by kernel_rfl), (by kernel_rfl), (by kernel_rfl), (by kernel_rfl), Nat.le_of_ble_eq_true (by kernel_rfl), (by kernel_rfl)⟩
abbrev plc (x : List UInt8) (n : UInt32) : List AV := x.map by8 ++ [w32 n]
abbrev plV8 (x : List UInt8) (n : UInt32) : List Value := v8 x ++ [.int .u32 (n.toNat : Int)]
theorem plc_p (x : List UInt8) (n : UInt32) : plc x n = (plV8 x n).map .p := by rw [plc, plV8, List.map_append, by8_p]; rfl
theorem fitp {x : List UInt8} (h : x.length = 32) (n : UInt32) : FitL lfp (plV8 x n) := by
 refine (fith h).append (.cons ⟨rfl, ?_⟩ .nil)
 have := n.toNat_lt
 simp [Lit.wf, IntKind.min, IntKind.max, IntKind.bits, IntKind.signed]; omega
theorem plV8_inj {x y : List UInt8} {n m : UInt32} : plV8 x n = plV8 y m ↔ x = y /\ n = m := by
 constructor
 . intro h
   obtain ⟨h1, h2⟩ := List.append_inj' h rfl
   refine ⟨v8_inj.1 h1, ?_⟩
   simp only [List.cons.injEq, Value.int.injEq, true_and, and_true] at h2
   exact UInt32.toNat_inj.1 (by omega)
 . rintro ⟨rfl, rfl⟩; rfl
open Classical in
theorem eqp {x y : List UInt8} (hx : x.length = 32) (hy : y.length = 32) (n m : UInt32) (xo yo : Operand) (K : AV -> Prop) : binA prog .eql 65 (.ag (plc x n)) (.ag (plc y m)) xo yo K = K (.p (.bool (decide (x = y /\ n = m)))) := by
 rw [plc_p, plc_p, KT.eqA ktp (fitp hx n) (fitp hy m)]
 congr 3
 rw [Bool.eq_iff_iff, decide_eq_true_iff, decide_eq_true_iff]; exact plV8_inj
def nowh : List AV := plc h0b 4294967295
theorem enow : [oB, oB, oB, oB, oB, oB, oB, oB, oB, oB, oB, oB, oB, oB, oB, oB, oB, oB, oB, oB, oB, oB, oB, oB, oB, oB, oB, oB, oB, oB, oB, oB, AV.p (Value.int IntKind.u32 4294967295)] = nowh := rfl
def mintB (t : TTx) : Bool := match t.ins with
 | [x] => decide (x.tx = h0b) && decide (x.n = 4294967295)
 | _ => false
theorem mint09_ok {T : Tbl} {t : TTx} (ok : t.Ok) : CallA prog G 116 [.ag t.cs] T fun v T' es => v = .p (.bool (mintB t)) /\ T' = T /\ es = [] := by
 refine CallA.wfs fun wf => ?_
 have hr := TTx.rules ok
 have g0 := fun l => gn0 T (.cells 63 t.cs) l
 have hbi := ok.i.es T
 have hsi := Sl.rules hbi.sl (by decide)
 by_cases h1 : t.ins.length = 1
 . obtain ⟨x, hx⟩ := List.length_eq_one_iff.1 h1
   have hxo := ok.ii x (by rw [hx]; simp)
   have hl0 : ∀ (l : Tbl) (K : AV -> Prop), loadA prog 65 (t.ia.pl 0) (T ++ l) K = K (.ag (plc x.tx x.n)) := fun l K => by
    have hts : tsz prog 65 = 33 := by (simp -dsimp +decide only [])
    have h2 := (hbi.app l).sl.lds (K := K) (P := prog) (t := 65) (by (simp -dsimp +decide only [])) 0 (by rw [hts]; decide) (by rw [hts, h1]; decide)
    rw [h2, hts, hx, List.drop_zero, List.flatMap_cons, List.flatMap_nil, List.append_nil]
    congr 2
    rw [TIn.cs, List.take_append, List.length_map, hxo.t, List.take_of_length_le (by rw [List.length_map, hxo.t]; decide)]
    rfl
   have i1 : ((t.ins.length : Int) = 1) = True := eq_true (by omega)
   have hfd := fun j k (K : AV -> Prop) => Sl.fld (K := K) hbi.sl (h1 ▸ Nat.one_pos : 0 < t.ins.length) j k
   refine CallA.eV 3 func116 ntmps116 results116 ?_
   simp -dsimp +decide only [vp0, ty, ↓reduceIte, Nat.reduceSub]
   simp -dsimp +decide (disch := omega) only [vp0, ty, ↓reduceIte, Int.reduceToNat, hr, g0, hsi, i1, hfd, hl0, enow]
   have hq := fun xo yo K => eqp hxo.t (show h0b.length = 32 from rfl) x.n 4294967295 xo yo K
   rw [show AV.ag nowh = .ag (plc h0b 4294967295) from rfl]
   simp -dsimp +decide (disch := omega) only [vp0, ↓reduceIte, hq]
   refine ⟨by omega, ?_⟩
   have hm : mintB t = true ↔ (x.tx = h0b /\ x.n = 4294967295) := by
    unfold mintB; rw [hx]; simp only [Bool.and_eq_true, decide_eq_true_eq]
   refine Vw.cut ⟨?_, rfl, rfl⟩
   rw [AV.wo]
   congr 2
   rw [Bool.eq_iff_iff, hm, decide_eq_true_iff]
 . have i1 : ((t.ins.length : Int) = 1) = False := eq_false (by omega)
   have hm : mintB t = false := by
    unfold mintB
    split
    . rename_i x hx; rw [hx] at h1; simp at h1
    . rfl
   rw [hm]
   refine CallA.eV 3 func116 ntmps116 results116 ?_
   simp -dsimp +decide only [vp0, ty, ↓reduceIte, Nat.reduceSub]
   simp -dsimp +decide (disch := omega) only [vp0, ty, ↓reduceIte, hr, hsi, i1]
   exact Vw.cut ⟨rfl, rfl, rfl⟩
theorem coin15_ok {T : Tbl} {t : TTx} (ok : t.Ok) : CallA prog G 89 [.ag t.cs] T fun v T' es => v = .p (.bool (mintB t)) /\ T' = T /\ es = [] := by
 refine CallA.wfs fun wf => ?_
 have hr := TTx.rules ok
 refine CallA.eV 3 func89 ntmps89 results89 ?_
 simp -dsimp +decide only [vp0, ty, en, ↓reduceIte, Nat.reduceSub]
 simp -dsimp +decide (disch := omega) only [vc, hr]
 refine (mint09_ok ok).det' ?_
 simp -dsimp +decide (disch := omega) only [va, ↓reduceIte, hr]
 exact Vw.cut ⟨rfl, rfl, rfl⟩
structure Blk where
 h : Hdr
 ta : AV
 txs : List TTx
def Blk.cs (b : Blk) : List AV := b.h.cs ++ [b.ta]
structure Blk.Ok (b : Blk) : Prop where
 h : b.h.Ok
 t : Lst 4 TTx.cs b.ta b.txs
 l : b.txs.length <= 1000
 ok : ∀ t ∈ b.txs, t.Ok
 il : ∀ t ∈ b.txs, t.ins.length <= 10000 /\ t.outs.length <= 10000
theorem Blk.cs_len {b : Blk} (ok : b.Ok) : b.cs.length = 69 := by rw [Blk.cs, List.length_append, Hdr.cs_len ok.h]; rfl
theorem Blk.cs_ta {b : Blk} (ok : b.Ok) : b.cs[68]? = some b.ta := by
 rw [Blk.cs, List.getElem?_append_right (by rw [Hdr.cs_len ok.h]; exact Nat.le_refl _), Hdr.cs_len ok.h]; rfl
structure BlkT (T : Tbl) (b : Blk) : Prop where
 h : b.h.Ok
 es : Es T 4 TTx.cs b.ta b.txs
 l : b.txs.length <= 1000
 ok : ∀ t ∈ b.txs, t.Ok
theorem Blk.Ok.at {b : Blk} (h : b.Ok) (T : Tbl) : BlkT T b := ⟨h.h, h.t.es T, h.l, h.ok⟩
theorem Blk.cs_lh {b : Blk} (h : b.h.Ok) : b.cs.length = 69 := by rw [Blk.cs, List.length_append, Hdr.cs_len h]; rfl
theorem Blk.cs_tah {b : Blk} (h : b.h.Ok) : b.cs[68]? = some b.ta := by
 rw [Blk.cs, List.getElem?_append_right (by rw [Hdr.cs_len h]; exact Nat.le_refl _), Hdr.cs_len h]; rfl
structure Stn where
 h : Nat
 at_ : Nat
 t : TTx
def Stn.cs (s : Stn) : List AV := wint (s.h : Int) :: wint (s.at_ : Int) :: (s.t.id.map by8 ++ s.t.cs)
theorem Stn.cs_len (s : Stn) : s.cs.length = 38 := by
 rw [Stn.cs, List.length_cons, List.length_cons, List.length_append, List.length_map, s.t.id_len]; rfl
def stnB (h : Nat) : Nat -> List TTx -> List Stn
 | _, [] => []
 | i, t :: r => ⟨h, i, t⟩ :: stnB h (i + 1) r
def allS : Nat -> List Blk -> List Stn
 | _, [] => []
 | h, b :: r => stnB h 0 b.txs ++ allS (h + 1) r
theorem stnB_len (h : Nat) : ∀ (i : Nat) (l : List TTx), (stnB h i l).length = l.length
 | _, [] => rfl
 | i, t :: r => by rw [stnB, List.length_cons, stnB_len h (i + 1) r, List.length_cons]
theorem stnB_snoc (h : Nat) (t : TTx) : ∀ (l : List TTx) (i : Nat), stnB h i (l ++ [t]) = stnB h i l ++ [⟨h, i + l.length, t⟩]
 | [], i => rfl
 | a :: r, i => by rw [List.cons_append, stnB, stnB_snoc h t r (i + 1), stnB, List.length_cons, List.cons_append, show i + 1 + r.length = i + (r.length + 1) by omega]
theorem allS_snoc (b : Blk) : ∀ (l : List Blk) (h : Nat), allS h (l ++ [b]) = allS h l ++ stnB (h + l.length) 0 b.txs
 | [], h => by rw [List.nil_append, allS, allS, allS, List.append_nil, List.nil_append]; rfl
 | a :: r, h => by rw [List.cons_append, allS, allS_snoc b r (h + 1), allS, List.length_cons, List.append_assoc, show h + 1 + r.length = h + (r.length + 1) by omega]
theorem allS_len : ∀ (l : List Blk) (h : Nat), (∀ b ∈ l, b.txs.length <= 1000) -> (allS h l).length <= l.length * 1000
 | [], h, _ => by simp [allS]
 | b :: r, h, hb => by
   have h1 := allS_len r (h + 1) fun x hx => hb x (by simp [hx])
   have h2 := hb b (by simp)
   rw [allS, List.length_append, stnB_len, List.length_cons, Nat.succ_mul]; omega
theorem stnB_ok {P : TTx -> Prop} (h : Nat) : ∀ (l : List TTx) (i : Nat), (∀ t ∈ l, P t) -> ∀ s ∈ stnB h i l, P s.t
 | [], i, _, s, hs => by cases hs
 | t :: r, i, hl, s, hs => by
   rcases List.mem_cons.1 hs with rfl | hs
   . exact hl t (by simp)
   . exact stnB_ok h r (i + 1) (fun x hx => hl x (by simp [hx])) s hs
theorem allS_ok {P : TTx -> Prop} : ∀ (l : List Blk) (h : Nat), (∀ b ∈ l, ∀ t ∈ b.txs, P t) -> ∀ s ∈ allS h l, P s.t
 | [], h, _, s, hs => by cases hs
 | b :: r, h, hl, s, hs => by
   rcases List.mem_append.1 hs with hs | hs
   . exact stnB_ok h b.txs 0 (hl b (by simp)) s hs
   . exact allS_ok r (h + 1) (fun x hx => hl x (by simp [hx])) s hs
theorem TTx.clean {x : TTx} (ok : x.Ok) : ∀ a ∈ x.cs, a.Clean := by
 intro a ha
 simp only [TTx.cs, List.mem_cons, List.not_mem_nil, or_false] at ha
 rcases ha with rfl | rfl | rfl | rfl
 . exact .p _
 . exact ok.i.k.cl
 . exact ok.o.k.cl
 . exact .p _
theorem Stn.wo {s : Stn} (ok : s.t.Ok) (q : Nat -> Bool) : s.cs.map (AV.wo q) = s.cs := by
 rw [Stn.cs, List.map_cons, List.map_cons, List.map_append, wb8, (TTx.rules ok).2.2.2.2.2.2.2.1]
 simp only [wint, AV.wo]
theorem Stn.clean {s : Stn} (ok : s.t.Ok) : ∀ a ∈ s.cs, a.Clean := by
 intro a ha
 rw [Stn.cs] at ha
 rcases List.mem_cons.1 ha with rfl | ha
 . exact .p _
 rcases List.mem_cons.1 ha with rfl | ha
 . exact .p _
 rcases List.mem_append.1 ha with ha | ha
 . exact clean8 _ a ha
 . exact TTx.clean ok a ha
theorem Stn.wof {l : List Stn} (h : ∀ s ∈ l, s.t.Ok) (q : Nat -> Bool) : (l.flatMap Stn.cs).map (AV.wo q) = l.flatMap Stn.cs := by
 induction l with
 | nil => rfl
 | cons s r ih => rw [List.flatMap_cons, List.map_append, Stn.wo (h s (by simp)), ih fun x hx => h x (by simp [hx])]
theorem Stn.cleanf {l : List Stn} (h : ∀ s ∈ l, s.t.Ok) : ∀ a ∈ l.flatMap Stn.cs, a.Clean := by
 intro a ha
 obtain ⟨s, hs, ha⟩ := List.mem_flatMap.1 ha
 exact Stn.clean (h s hs) a ha
def sst (x y : Int) (id : List AV) : List AV := wint x :: wint y :: (id ++ [w32 0, .p (.slice none 0 0), .p (.slice none 0 0), w32 0])
theorem ez38 (x y : Int) : [AV.p (Value.int IntKind.i64 x), AV.p (Value.int IntKind.i64 y), oB, oB, oB, oB, oB, oB, oB, oB, oB, oB, oB, oB, oB, oB, oB, oB, oB, oB, oB, oB, oB, oB, oB, oB, oB, oB, oB, oB, oB, oB, oB, oB, oW, AV.p (Value.slice none 0 0), AV.p (Value.slice none 0 0), oW] = sst x y z32 := rfl
theorem sst_len {x y : Int} {id : List AV} (h : id.length = 32) : (sst x y id).length = 38 := by rw [sst, List.length_cons, List.length_cons, List.length_append, h]; rfl
theorem sst_id {x y : Int} {id : List AV} (h : id.length = 32) : wrA (sst x y z32) 2 id = sst x y id := by
 rw [wrA_eq (by rw [sst_len rfl]; omega), sst, sst, h]
 rfl
theorem sst_t {x y : Int} {id cs : List AV} (h : id.length = 32) (hc : cs.length = 4) : wrA (sst x y id) 34 cs = wint x :: wint y :: (id ++ cs) := by
 rw [wrA_eq (by rw [sst_len h]; omega), sst, hc, List.drop_of_length_le (by rw [List.length_cons, List.length_cons, List.length_append, h]; decide), List.append_nil, show 34 = (32 + 1) + 1 from rfl, List.take_succ_cons, List.take_succ_cons, <- h, List.take_left]
 rfl
theorem all15_ok {T : Tbl} {a : AV} {l : List Blk} (hb : Es T 69 Blk.cs a l) (hok : ∀ b ∈ l, BlkT T b) (hl : l.length <= 1000) : CallA prog G 72 [a] T fun v T' es => v = .vs ((allS 0 l).flatMap Stn.cs) (allS 0 l).length /\ T' = T /\ es = [] := by
 refine CallA.wfs fun wf => ?_
 have wt := wf.t
 have wp := wf.p
 have wa := wf.arg a (by simp)
 have hsr := Sl.rules hb.sl (by decide)
 have hall : ∀ s ∈ allS 0 l, s.t.Ok := allS_ok l 0 fun b hb => (hok b hb).ok
 have hlsl := Sl.loads hb.sl (P := prog) (t := 50) (by (simp -dsimp +decide only []))
 refine CallA.eV 6 func72 ntmps72 results72 ?_
 simp -dsimp +decide only [vp0, ↓reduceIte, Nat.reduceSub]
 refine SemA.adopt 3 166 38 (by decide) rfl ?_
 simp -dsimp +decide only [va]
 refine SemA.loopK (T.length + 1) (fun h : Nat => [(0, a), (3, .sl T.length 0 (allS 0 (l.take h)).length), (4, wint (h : Int))]) (fun h => T ++ [.buf 166 38 ((allS 0 (l.take h)).flatMap Stn.cs)]) (fun h => h <= l.length) (fun h => l.length - h) 0 [] 0 (fun _ : Unit => [(3, .sl T.length 0 (allS 0 l).length)]) (fun _ => T ++ [.buf 166 38 ((allS 0 l).flatMap Stn.cs)]) (fun _ => True) (by omega) (by omega) (by (simp -dsimp +decide (disch := omega) only [vq, Nat.reduceAdd, ci]); first | rfl | done) rfl (by simp) ?_ ?_
 . rintro h g hh
   refine SemA.o ?_
   simp -dsimp +decide (disch := omega) only [vq, ty, ↓reduceIte, Nat.reduceAdd, hsr]
   refine CondP.dec (fun hc => ?_) (fun hc => ?_)
   . obtain ⟨b, hbx⟩ : ∃ b, l[h]? = some b := ⟨l[h]'(by omega), by simp⟩
     have hbo := hok b (List.mem_of_getElem? hbx)
     have hXl := allS_len (l.take h) 0 fun x hx => (hok x (List.mem_of_mem_take hx)).l
     have hstep : allS 0 (l.take (h + 1)) = allS 0 (l.take h) ++ stnB h 0 b.txs := by
      rw [List.take_add_one, hbx, Option.toList_some, allS_snoc, List.length_take, Nat.min_eq_left (by omega), Nat.zero_add]
     obtain ⟨X, hX⟩ : ∃ X, X = allS 0 (l.take h) := ⟨_, rfl⟩
     rw [<- hX] at hXl hstep ⊢
     have hXb : X.length <= 1000000 := by rw [List.length_take] at hXl; omega
     have hne : 0 < l.length := by omega
     have hfd := fun j k (K : AV -> Prop) => Sl.fld (K := K) hb.sl hne j k
     have hta : (l.flatMap Blk.cs)[h * 69 + 68]? = some b.ta := by rw [flat_cell hb.wd hbx (by decide)]; exact Blk.cs_tah hbo.h
     have hbl := hbo.l
     simp -dsimp +decide (disch := omega) only [va, ↓reduceIte]
     refine SemA.loopK (T.length + 1) (fun i : Nat => [(0, a), (3, .sl T.length 0 (X.length + i)), (4, wint (h : Int)), (5, wint (i : Int))]) (fun i => T ++ [.buf 166 38 ((X ++ stnB h 0 (b.txs.take i)).flatMap Stn.cs)]) (fun i => i <= b.txs.length) (fun i => b.txs.length - i) 0 [] 2 (fun _ : Unit => [(0, a), (3, .sl T.length 0 (X ++ stnB h 0 b.txs).length), (4, wint (h : Int))]) (fun _ => T ++ [.buf 166 38 ((X ++ stnB h 0 b.txs).flatMap Stn.cs)]) (fun _ => True) (by omega) (by omega) (by (simp -dsimp +decide (disch := omega) only [vq, Nat.reduceAdd, ci]); first | rfl | done) (by simp [stnB]) (by simp) ?_ ?_
     . rintro i g hi
       have hln := fun (Y : Tbl) s K => ((hbo.es.app Y).sl).ln (K := K) s
       refine SemA.o ?_
       simp -dsimp +decide (disch := omega) only [vq, ty, ↓reduceIte, Nat.reduceAdd, hsr, hlsl, hfd, hta, hln]
       refine ⟨⟨by omega, by omega⟩, CondP.dec (fun hc2 => ?_) (fun hc2 => ?_)⟩
       . obtain ⟨t, ht⟩ : ∃ t, b.txs[i]? = some t := ⟨b.txs[i]'(by omega), by simp⟩
         have hto := hbo.ok t (List.mem_of_getElem? ht)
         have htr := TTx.rules hto
         have hid := t.id_len
         have kf : ∀ l2, ∃ l', keepT (fun i => decide (i < T.length)) (T ++ l2) = T ++ l' := keep_front T
         have kix := fun (l2 : Tbl) (ik : IntKind) (z : Int) (K : AV -> Prop) => (show ixA 69 a (.p (.int ik z)) (keepT (fun i => decide (i < T.length)) (T ++ l2)) K = ((0 <= z /\ z < l.length) /\ K (a.pl (z.toNat * 69))) by
          obtain ⟨l', e⟩ := kf l2
          rw [e]; exact (hb.app l').sl.ix (by decide) ik z)
         have klsl := fun (l2 : Tbl) (K : AV -> Prop) => (show loadA prog 50 (a.pl (h * 69 + 68)) (keepT (fun i => decide (i < T.length)) (T ++ l2)) K = K b.ta by
          obtain ⟨l', e⟩ := kf l2
          rw [e, (hb.app l').sl.ld (by (simp -dsimp +decide only [])) _ (by have := Nat.mul_le_mul_right 69 (show h + 1 <= l.length by omega); omega), hta]
          rfl)
         have hldt0 := fun (Y : Tbl) (K : AV -> Prop) => (show loadA prog 63 (b.ta.pl (i * 4)) (T ++ Y) K = K (.ag t.cs) by
          rw [((hbo.es.app Y).ld (P := prog) (t := 63) (by (simp -dsimp +decide only [])) (by (simp -dsimp +decide only [])) (by decide)).2 i K (by omega), ht]
          rfl)
         have hldt := fun (l2 : Tbl) (K : AV -> Prop) => (show loadA prog 63 (b.ta.pl (i * 4)) (keepT (fun i => decide (i < T.length)) (T ++ l2)) K = K (.ag t.cs) by
          obtain ⟨l', e⟩ := kf l2
          rw [e]; exact hldt0 l' K)
         have hixt0 := fun (Y : Tbl) (ik : IntKind) (z : Int) (K : AV -> Prop) => (hbo.es.app Y).sl.ix (K := K) (by decide) ik z
         have hixt := fun (l2 : Tbl) (ik : IntKind) (z : Int) (K : AV -> Prop) => (show ixA 4 b.ta (.p (.int ik z)) (keepT (fun i => decide (i < T.length)) (T ++ l2)) K = ((0 <= z /\ z < b.txs.length) /\ K (b.ta.pl (z.toNat * 4))) by
          obtain ⟨l', e⟩ := kf l2
          rw [e]; exact hixt0 l' ik z K)
         simp -dsimp +decide (disch := omega) only [va]
         refine SemA.draw (fun i => decide (i < T.length)) [(0, true), (1, true), (2, true), (3, true), (4, true), (5, true), (6, true), (7, true), (8, true), (9, true), (10, true), (12, true), (13, true), (14, true), (15, true), (16, true), (17, true), (18, true), (19, true), (11, false), (20, false), (21, false), (22, false), (23, true)] mixed (by kernel_rfl) ?_
         simp -dsimp +decide (disch := omega) only [vp0, ty, en, ↓reduceIte, hfd, kix, klsl, hldt, hixt]
         refine ⟨⟨by omega, by omega⟩, ⟨by omega, by omega⟩, ⟨by omega, by omega⟩, ⟨by omega, by omega⟩, (id09_ok hto).det' ?_⟩
         have hidm : (t.id.map by8).length = 32 := by rw [List.length_map, hid]
         have z1 := sst_id (x := (h : Int)) (y := (i : Int)) hidm
         have z2 := sst_t (x := (h : Int)) (y := (i : Int)) hidm htr.1
         have z3 := sst_len (x := (h : Int)) (y := (i : Int)) hidm
         have z4 : (wint (h : Int) :: wint (i : Int) :: (t.id.map by8 ++ t.cs)) = Stn.cs ⟨h, i, t⟩ := rfl
         have z5 := Stn.cs_len ⟨h, i, t⟩
         have z6 : wrA (sst 0 0 z32) 0 (Stn.cs ⟨h, i, t⟩) = Stn.cs ⟨h, i, t⟩ := wrA_all (by rw [z5]; rfl)
         rw [z4] at z2
         have z7 : ∀ x y u : Int, (sst x y z32).set 0 (AV.p (Value.int IntKind.i64 u)) = sst u y z32 := fun _ _ _ => rfl
         have z8 : ∀ x y u : Int, (sst x y z32).set 1 (AV.p (Value.int IntKind.i64 u)) = sst x u z32 := fun _ _ _ => rfl
         have z9 : ∀ x y : Int, (sst x y z32).length = 38 := fun _ _ => rfl
         simp -dsimp +decide (disch := omega) only [vt2, vze, vq, ty, ↓reduceIte, Nat.reduceAdd, Nat.reduceMul, vi, vt, wt, wa, htr, hid, ez38, z1, z2, z3, z5, z6, z7, z8, z9, rep1]
         have hone : ones (Stn.cs ⟨h, i, t⟩) = true := by
          have o1 := vh.2.2.2.2.2 t.id
          have o2 := htr.2.2.2.2.2.2.2.2.2
          rw [ones] at o1 o2
          rw [Stn.cs, ones, List.all_cons, List.all_cons, List.all_append, o1, o2]
          rfl
         have htk : List.take 38 (Stn.cs ⟨h, i, t⟩) = Stn.cs ⟨h, i, t⟩ := List.take_of_length_le (by rw [z5]; decide)
         have hsn : X ++ stnB h 0 (b.txs.take (i + 1)) = X ++ stnB h 0 (b.txs.take i) ++ [⟨h, i, t⟩] := by
          rw [List.take_add_one, ht, Option.toList_some, stnB_snoc, List.length_take, Nat.min_eq_left (by omega), Nat.zero_add, List.append_assoc]
         have hwY := Stn.wof (l := X ++ stnB h 0 (b.txs.take i)) (fun s hs => by
          rcases List.mem_append.1 hs with hs | hs
          . rw [hX] at hs; exact allS_ok _ 0 (fun b hb => (hok b (List.mem_of_mem_take hb)).ok) s hs
          . exact stnB_ok h _ 0 (fun t ht => hbo.ok t (List.mem_of_mem_take ht)) s hs)
         have hwS := Stn.wo (s := ⟨h, i, t⟩) hto
         rw [htk, hwY, hwY, hwS, hwS]
         refine ⟨hone, ⟨?_, by omega, by omega⟩, .inl (by simp), i + 1, ⟨by omega, by omega⟩, ⟨rfl, rfl⟩, ?_⟩
         . rw [flat_len (sz := 38) fun s _ => Stn.cs_len s, List.length_append, stnB_len, List.length_take, Nat.min_eq_left (by omega)]
         . rw [hsn]; simp only [List.flatMap_append, List.flatMap_cons, List.flatMap_nil, List.append_nil]
       . have e : i = b.txs.length := by omega
         subst e
         rw [List.take_length]
         have hw := Stn.wof (l := X ++ stnB h 0 b.txs) (fun s hs => by
          rcases List.mem_append.1 hs with hs | hs
          . rw [hX] at hs; exact allS_ok _ 0 (fun b hb => (hok b (List.mem_of_mem_take hb)).ok) s hs
          . exact stnB_ok h b.txs 0 hbo.ok s hs)
         simp -dsimp +decide (disch := omega) only [vt2, vze, vq, ↓reduceIte, Nat.reduceAdd, vt, wt, wa, hw]
         exact ⟨(), by rw [List.length_append, stnB_len]⟩
     . rintro _ g tmp -
       have hw := Stn.wof (l := X ++ stnB h 0 b.txs) (fun s hs => by
        rcases List.mem_append.1 hs with hs | hs
        . rw [hX] at hs; exact allS_ok _ 0 (fun b hb => (hok b (List.mem_of_mem_take hb)).ok) s hs
        . exact stnB_ok h b.txs 0 hbo.ok s hs)
       simp -dsimp +decide (disch := omega) only [vt2, vze, vq, ↓reduceIte, Nat.reduceAdd, vi, vt, wt, wa, hw]
       exact ⟨h + 1, ⟨by omega, by omega⟩, ⟨by rw [hstep], rfl⟩, by rw [hstep]⟩
   . have e : h = l.length := by omega
     subst e
     rw [List.take_length]
     have hw := Stn.wof hall
     simp -dsimp +decide (disch := omega) only [vt2, vze, vp0, ↓reduceIte, Nat.reduceAdd, vt, wt, hw]
     exact ⟨(), trivial⟩
 . rintro _ g tmp -
   simp -dsimp +decide (disch := omega) only [vp0, ↓reduceIte, Nat.reduceAdd]
   refine Vw.pub T.length (o := .buf 166 38 ((allS 0 l).flatMap Stn.cs)) (gn0 T _ []) rfl (Stn.cleanf hall) ?_
   simp -dsimp +decide only [va, ↓reduceIte, wp]
   exact Vw.cut ⟨rfl, rfl, rfl⟩
def outO (tx : List UInt8) (n : UInt32) : List TTx -> Option TOut
 | [] => none
 | t :: r => if t.id = tx /\ n.toNat < t.outs.length then t.outs[n.toNat]? else outO tx n r
def outV : Option TOut -> AV
 | none => .tu [.ag [.p (.int .u64 0), .p (.slice none 0 0)], .p (.bool false)]
 | some o => .tu [.ag o.cs, .p (.bool true)]
theorem output29_ok {T : Tbl} {a : AV} {l : List TTx} (hb : Es T 4 TTx.cs a l) (hok : ∀ t ∈ l, t.Ok) (hl : l.length <= 1000000) {tx : List UInt8} (htx : tx.length = 32) {n : UInt32} :
 CallA prog G 25 [a, .ag (plc tx n)] T fun v T' es => v = outV (outO tx n l) /\ T' = T /\ es = [] := by
 refine CallA.wfs fun wf => ?_
 have wt := wf.t
 have wa := wf.arg a (by simp)
 have hsr := Sl.rules hb.sl (by decide)
 have hld := hb.ld (P := prog) (t := 63) (by (simp -dsimp +decide only [])) (by (simp -dsimp +decide only [])) (by decide)
 have hlsl := Sl.loads hb.sl (P := prog) (t := 61) (by (simp -dsimp +decide only []))
 have hpl : (plc tx n).length = 33 := by rw [plc, List.length_append, List.length_map, htx]; rfl
 have hp0 : List.take 32 (List.drop 0 (plc tx n)) = tx.map by8 := by rw [List.drop_zero, plc, List.take_append_of_le_length (by rw [List.length_map, htx]; decide), List.take_of_length_le (by rw [List.length_map, htx]; decide)]
 have hp1 : (plc tx n)[32]? = some (w32 n) := by rw [plc, List.getElem?_append_right (by rw [List.length_map, htx]; decide), List.length_map, htx]; rfl
 have g0 := fun l => gn0 T (.cells 65 (plc tx n)) l
 have g1 := fun a c l => gn1 T a (.cells 71 c) l
 have hp2 : List.take 32 (plc tx n) = tx.map by8 := by have := hp0; rwa [List.drop_zero] at this
 have hwp : ∀ q, (plc tx n).map (AV.wo q) = plc tx n := fun q => by rw [plc, List.map_append, wb8]; simp only [List.map_cons, List.map_nil, w32, AV.wo]
 refine CallA.eV 7 func25 ntmps25 results25 ?_
 simp -dsimp +decide only [vp0, ty, ↓reduceIte, Nat.reduceSub, Nat.reduceAdd]
 refine SemA.loopK (T.length + 2) (fun i : Nat => [(0, a), (3, .ptr T.length 0), (4, .ptr (T.length + 1) 0), (6, wint (i : Int))]) (fun _ => T ++ [.cells 65 (plc tx n), .cells 71 [.p (.int .u64 0), .p (.slice none 0 0)]]) (fun i => i <= l.length /\ outO tx n (l.drop i) = outO tx n l) (fun i => l.length - i) 0 [] 0 (fun _ : Unit => [(4, .ptr (T.length + 1) 0)]) (fun _ => T ++ [.cells 65 (plc tx n), .cells 71 [.p (.int .u64 0), .p (.slice none 0 0)]]) (fun _ => outO tx n l = none) (by omega) ⟨by omega, rfl⟩ (by (simp -dsimp +decide (disch := omega) only [vq, Nat.reduceAdd, ci]); first | rfl | done) rfl (by simp) ?_ ?_
 . rintro i g ⟨hi, hR⟩
   refine SemA.o ?_
   simp -dsimp +decide (disch := omega) only [vq, ty, ↓reduceIte, Nat.reduceAdd, hsr]
   refine CondP.dec (fun hc => ?_) (fun hc => ?_)
   . obtain ⟨t, ht⟩ : ∃ t, l[i]? = some t := ⟨l[i]'(by omega), by simp⟩
     have hto := hok t (List.mem_of_getElem? ht)
     have hne : 0 < l.length := by omega
     have hfd := fun j k (K : AV -> Prop) => Sl.fld (K := K) hb.sl hne j k
     have hoa : (l.flatMap TTx.cs)[i * 4 + 2]? = some t.oa := by rw [flat_cell hb.wd ht (by decide)]; rfl
     have hdr : l.drop i = t :: l.drop (i + 1) := by
      rw [List.drop_eq_getElem_cons (by omega)]
      rw [List.getElem?_eq_getElem (by omega)] at ht
      rw [Option.some.inj ht]
     rw [hdr, outO] at hR
     have hln := fun (Y : Tbl) s K => ((hto.o.es Y).sl).ln (K := K) s
     have hq := fun xo yo K => eqH t.id_len htx xo yo K
     refine SemA.draw (fun i => true) [(0, true), (1, true), (2, true), (3, true), (5, true), (6, true), (4, false), (7, true), (8, true), (9, true), (10, true), (11, true), (12, true), (13, true), (14, true), (15, true), (16, true), (17, true), (18, true), (19, true), (20, true)] mixed (by kernel_rfl) ?_
     simp -dsimp +decide (disch := omega) only [vp0, ty, en, ↓reduceIte, vt, hsr, hld, ht, hpl, hp2, g0]
     refine ⟨⟨by omega, by omega⟩, (id09_ok hto).det' ?_⟩
     by_cases c1 : t.id = tx
     . have i1 : (t.id = tx) = True := eq_true c1
       simp -dsimp +decide (disch := omega) only [vr, ty, ↓reduceIte, vt, hsr, hlsl, hfd, hoa, hln, hp1, g0, hq, i1]
       have hol := hto.ol
       have e1 : (UInt64.ofInt (t.outs.length : Int)).toNat = t.outs.length := ofInt_lt (by omega)
       have e2 : n.toUInt64.toNat = n.toNat := by simp
       refine ⟨⟨by omega, by omega⟩, CondP.dec (fun h2 => ?_) (fun h2 => ?_)⟩
       . obtain ⟨o, ho⟩ : ∃ o, t.outs[n.toNat]? = some o := ⟨t.outs[n.toNat]'(by omega), by simp⟩
         rw [if_pos ⟨c1, by omega⟩, ho] at hR
         rw [<- hR]
         have hoo := hto.oo o (List.mem_of_getElem? ho)
         have hor := TOut.rules hoo
         have hldo := fun (Y : Tbl) (K : AV -> Prop) => (show loadA prog 71 (t.oa.pl (n.toNat * 2)) Y K = K (.ag o.cs) by
          rw [((hto.o.es Y).ld (P := prog) (t := 71) (by (simp -dsimp +decide only [])) (by (simp -dsimp +decide only [])) (by decide)).2 n.toNat K (by omega), ho]
          rfl)
         have hixo := fun (Y : Tbl) (ik : IntKind) (z : Int) (K : AV -> Prop) => (hto.o.es Y).sl.ix (K := K) (by decide) ik z
         refine SemA.drawS (.fl 0 (.fl 1 (.fl 2 (.fl 3 (.fl 4 (.fl 5 (.fl 6 (.fl 7 (.fl 8 (.sq 9 (.fl 10 .nil))))))))))) mixed (by kernel_rfl) ?_
         simp -dsimp +decide (disch := omega) only [vy, vy, vr, ty, ↓reduceIte, Nat.reduceAdd, Nat.reduceLT, hsr, hlsl, hfd, hoa, hp1, g0, g1, hldo, hixo, hor, vres, vone]
         refine ⟨⟨by omega, by omega⟩, by omega, ?_⟩
         rw [List.take_of_length_le (Nat.le_of_eq hor.1)]
         exact Vw.cut ⟨by rw [AV.wo, AV.woL_eq]; simp only [List.map_cons, List.map_nil, AV.wo, AV.woL_eq, hor.2.2.2.2.1]; rfl, rfl, rfl⟩
       . rw [if_neg fun h => by omega] at hR
         simp -dsimp +decide (disch := omega) only [vt2, vze, vze, vq, ↓reduceIte, Nat.reduceAdd, vi, vt, wt, wa, hwp]
         exact ⟨i + 1, ⟨⟨by omega, hR⟩, by omega⟩, rfl⟩
     . have i1 : (t.id = tx) = False := eq_false c1
       rw [if_neg fun h => c1 h.1] at hR
       simp -dsimp +decide (disch := omega) only [vt2, vze, vze, vq, ↓reduceIte, Nat.reduceAdd, vi, vt, hq, i1, wt, wa, hwp]
       exact ⟨i + 1, ⟨⟨by omega, hR⟩, by omega⟩, rfl⟩
   . have e : i = l.length := by omega
     subst e
     rw [List.drop_length] at hR
     simp -dsimp +decide (disch := omega) only [vt2, vze, vze, vp0, ↓reduceIte, Nat.reduceAdd, vt, wt, hwp]
     exact ⟨(), hR.symm⟩
 . rintro _ g tmp hn
   rw [hn]
   have w0 : wrA [AV.p (.int .u64 0), AV.p (.slice none 0 0)] 0 [AV.p (.int .u64 0), AV.p (.slice none 0 0)] = [AV.p (.int .u64 0), AV.p (.slice none 0 0)] := rfl
   simp -dsimp +decide (disch := omega) only [vp0, ty, ↓reduceIte, Nat.reduceAdd, w0, g1, vres, vone]
   exact Vw.cut ⟨rfl, rfl, rfl⟩
def inH (ahead : List TTx) (x : TIn) : List (List UInt8) := match outO x.tx x.n ahead with
 | some o => [sha o.sc.b]
 | none => []
def outH (o : TOut) : List UInt8 := sha o.sc.b
def txH (ahead : List TTx) (t : TTx) : List (List UInt8) := t.ins.flatMap (inH ahead) ++ t.outs.map outH
def blkH : List TTx -> List TTx -> List (List UInt8)
 | _, [] => []
 | ahead, t :: r => txH ahead t ++ blkH (ahead ++ [t]) r
def flatB (l : List Blk) : List TTx := l.flatMap Blk.txs
def touchH (l : List Blk) (h : Nat) : List (List UInt8) := match l[h]? with
 | some b => blkH (flatB (l.take h)) b.txs
 | none => []
theorem blkH_snoc (t : TTx) : ∀ (l ahead : List TTx), blkH ahead (l ++ [t]) = blkH ahead l ++ txH (ahead ++ l) t
 | [], ahead => by simp [blkH]
 | a :: r, ahead => by rw [List.cons_append, blkH, blkH_snoc t r, blkH, List.append_assoc, List.append_assoc]; rfl
theorem txH_32 (ahead : List TTx) (t : TTx) : H32 (txH ahead t) := by
 intro x hx
 rcases List.mem_append.1 hx with hx | hx
 . obtain ⟨y, _, hy⟩ := List.mem_flatMap.1 hx
   unfold inH at hy
   split at hy
   . rw [List.mem_singleton.1 hy]; exact sha_len _
   . cases hy
 . obtain ⟨o, _, rfl⟩ := List.mem_map.1 hx
   exact sha_len _
theorem blkH_32 : ∀ (l ahead : List TTx), H32 (blkH ahead l)
 | [], _ => fun _ h => nomatch h
 | t :: r, ahead => fun x hx => by
   rw [blkH] at hx
   rcases List.mem_append.1 hx with hx | hx
   . exact txH_32 _ _ x hx
   . exact blkH_32 r _ x hx
theorem touchH_32 (l : List Blk) (h : Nat) : H32 (touchH l h) := by
 unfold touchH
 split
 . exact blkH_32 _ _
 . exact fun _ h => nomatch h
def grp (tx : List UInt8) (l : List TTx) : List TTx := l.filter fun t => decide (t.id = tx)
def outG (n : UInt32) : List TTx -> Option TOut
 | [] => none
 | t :: r => if n.toNat < t.outs.length then t.outs[n.toNat]? else outG n r
theorem outG_eq (tx : List UInt8) (n : UInt32) : ∀ l : List TTx, outO tx n l = outG n (grp tx l)
 | [] => rfl
 | t :: r => by
   rw [outO, grp, List.filter_cons, outG_eq tx n r]
   by_cases h : t.id = tx
   . simp only [h, true_and, decide_true, if_true, outG]; rfl
   . simp only [h, false_and, if_false, decide_false]; rfl
theorem grp_snoc (tx : List UInt8) (l : List TTx) (t : TTx) : grp tx (l ++ [t]) = if t.id = tx then grp tx l ++ [t] else grp tx l := by
 rw [grp, List.filter_append]
 by_cases h : t.id = tx <;> simp [h, grp]
def ids1 (l : List TTx) : List (List UInt8) := uniq (l.map TTx.id)
theorem uniqF_snoc (x : List UInt8) : ∀ (l acc : List (List UInt8)), uniqF acc (l ++ [x]) = if x ∈ uniqF acc l then uniqF acc l else uniqF acc l ++ [x]
 | [], acc => rfl
 | h :: r, acc => by rw [List.cons_append, uniqF, uniqF_snoc x r]; rfl
theorem ids1_snoc (l : List TTx) (t : TTx) : ids1 (l ++ [t]) = if t.id ∈ ids1 l then ids1 l else ids1 l ++ [t.id] := by
 rw [ids1, List.map_append]; exact uniqF_snoc _ _ _
theorem ids1_mem {l : List TTx} {x : List UInt8} : x ∈ ids1 l ↔ ∃ t ∈ l, t.id = x := by
 rw [ids1, uniq, uniqF_mem]; simp
theorem ids1_nodup (l : List TTx) : (ids1 l).Nodup := uniqF_nodup _ _ List.nodup_nil
theorem ids1_32 (l : List TTx) : H32 (ids1 l) := by
 intro x hx
 obtain ⟨t, _, rfl⟩ := ids1_mem.1 hx
 exact t.id_len
theorem grp_none {l : List TTx} {x : List UInt8} (h : x ∉ ids1 l) : grp x l = [] := by
 rw [grp, List.filter_eq_nil_iff]
 intro t ht
 rw [decide_eq_true_iff]
 exact fun e => h (ids1_mem.2 ⟨t, ht, e⟩)
def updH (V : Tbl) (c j : Nat) (hs : List (List UInt8)) : Tbl := (V.set j (.buf 33 32 (hs.flatMap H8))).set c (.cells 41 [.sl j 0 hs.length])
structure Th (V : Tbl) (c j : Nat) (hs : List (List UInt8)) : Prop where
 gc : V[c]? = some (.cells 41 [.sl j 0 hs.length])
 gj : V[j]? = some (.buf 33 32 (hs.flatMap H8))
 gu : V.map (AObj.wo (· == j)) = V.set c (.cells 41 [.any])
 h32 : H32 hs
theorem Th.ne {V : Tbl} {c j : Nat} {hs : List (List UInt8)} (h : Th V c j hs) : c ≠ j := by
 rintro rfl
 have := h.gc.symm.trans h.gj
 cases this
theorem Th.lt {V : Tbl} {c j : Nat} {hs : List (List UInt8)} (h : Th V c j hs) : c < V.length /\ j < V.length :=
 ⟨(List.getElem?_eq_some_iff.1 h.gc).1, (List.getElem?_eq_some_iff.1 h.gj).1⟩
theorem updH_len (V : Tbl) (c j : Nat) (hs : List (List UInt8)) : (updH V c j hs).length = V.length := by simp [updH]
theorem Th.upd {V : Tbl} {c j : Nat} {hs : List (List UInt8)} (h : Th V c j hs) {h2 : List (List UInt8)} (k : H32 h2) : Th (updH V c j h2) c j h2 := by
 have hn := h.ne
 have hl := h.lt
 refine ⟨?_, ?_, ?_, k⟩
 . rw [updH, List.getElem?_set_self (by simp; omega)]
 . rw [updH, List.getElem?_set_ne hn, List.getElem?_set_self hl.2]
 . have e1 : AObj.wo (· == j) (.buf 33 32 (h2.flatMap H8)) = .buf 33 32 (h2.flatMap H8) := by rw [AObj.wo, wo8f]
   have e2 : AObj.wo (· == j) (.cells 41 [.sl j 0 h2.length]) = .cells 41 [.any] := by
    rw [AObj.wo]; simp [AV.wo]
   rw [updH, List.map_set, List.map_set, h.gu, e1, e2, List.set_set, List.set_comm _ _ hn, List.set_set]
def EH (c j : Nat) : Eff := [(c, false), (j, true)]
theorem slots_EH (i j : Nat) : (∀ l, slots (EH i j) l = l.map (AV.wo (· == j))) /\ (∀ l, slotsT (EH i j) l = l.map fun p => (p.1, p.2.wo (· == j))) := by
 have e : moved (EH i j) = (· == j) := by
  funext m
  simp only [EH, moved, Bool.true_and, Bool.false_and, Bool.false_or, Bool.or_false]
  rw [Bool.eq_iff_iff]; simp
 exact ⟨fun l => by show l.map (AV.wo (moved (EH i j))) = _; rw [e], fun l => by show (l.map fun p => (p.1, p.2.wo (moved (EH i j)))) = _; rw [e]⟩
theorem recE_EH {n i j : Nat} (hi : i < n) (hj : j < n) (E : Eff) : recE n (EH i j) E = (i, false) :: (j, true) :: E := by
 simp [EH, recE, rec1, hi, hj]
theorem updH_wo {V : Tbl} {i j : Nat} {q : Nat -> Bool} (hV : V.map (AObj.wo q) = V) (hq : q j = false) (o : List (List UInt8)) : (updH V i j o).map (AObj.wo q) = updH V i j o := by
 have e1 : AObj.wo q (.buf 33 32 (o.flatMap H8)) = .buf 33 32 (o.flatMap H8) := by rw [AObj.wo, wo8f]
 have e2 : AObj.wo q (.cells 41 [.sl j 0 o.length]) = .cells 41 [.sl j 0 o.length] := by
  rw [AObj.wo]; simp [AV.wo, hq]
 rw [updH, List.map_set, List.map_set, hV, e1, e2]
theorem updH_self {V : Tbl} {c j : Nat} {hs : List (List UInt8)} (h : Th V c j hs) : updH V c j hs = V := by
 have e : ∀ (l : Tbl) (k : Nat) (o : AObj), l[k]? = some o -> l.set k o = l := fun l k o h => by
  obtain ⟨hk, rfl⟩ := List.getElem?_eq_some_iff.1 h
  exact List.set_getElem_self hk
 rw [updH, e V j _ h.gj, e V c _ h.gc]
theorem Th.app {V : Tbl} {c j : Nat} {hs : List (List UInt8)} (h : Th V c j hs) {l : Tbl} (hl : l.map (AObj.wo (· == j)) = l) : Th (V ++ l) c j hs := by
 have hlt := h.lt
 refine ⟨by rw [List.getElem?_append_left hlt.1]; exact h.gc, by rw [List.getElem?_append_left hlt.2]; exact h.gj, ?_, h.h32⟩
 rw [List.map_append, h.gu, hl, List.set_append_left _ _ hlt.1]
theorem Th.updA {V : Tbl} {c j : Nat} {hs : List (List UInt8)} (h : Th V c j hs) (l : Tbl) (h2 : List (List UInt8)) : updH (V ++ l) c j h2 = updH V c j h2 ++ l := by
 have hlt := h.lt
 rw [updH, updH, List.set_append_left _ _ hlt.2, List.set_append_left _ _ (by simp; omega)]
theorem touch_ok {V : Tbl} {c j : Nat} {hs : List (List UInt8)} (h : Th V c j hs) (hl : hs.length <= 100000000) {o : TOut} (ok : o.Ok) :
 CallA prog G 20 [.ag o.cs, .ptr c 0] V fun v T' es => v = .tu [] /\ T' = updH V c j (hs ++ [outH o]) /\ es = EH c j := by
 refine CallA.wfs fun wf => ?_
 have wt := wf.t
 have hlt := h.lt
 have hne := h.ne
 have hcj : (c == j) = false := by simpa using hne
 have hor := TOut.rules ok
 have gc := h.gc
 have gj := h.gj
 have gcl : ∀ l, (V ++ l)[c]? = some (.cells 41 [.sl j 0 hs.length]) := fun l => by rw [List.getElem?_append_left hlt.1]; exact gc
 have gjl : ∀ l, (V ++ l)[j]? = some (.buf 33 32 (hs.flatMap H8)) := fun l => by rw [List.getElem?_append_left hlt.2]; exact gj
 have hsh := sha_len o.sc.b
 have hfl : (hs.flatMap H8).length = hs.length * 32 := flat_len (h8 h.h32)
 have kc : (c = V.length) = False := eq_false (by omega)
 have kc' : (V.length = c) = False := eq_false (by omega)
 have kj : (j = c) = False := eq_false (by omega)
 have kj' : (j = V.length) = False := eq_false (by omega)
 have hVj : (V.length == j) = false := by
  have : V.length ≠ j := by omega
  simpa using this
 have hjj : (j == j) = true := by simp
 have hu := h.gu
 have hs1 : ∀ a l o, (V.set c a ++ l).set j o = (V.set c a).set j o ++ l := fun a l o => by rw [List.set_append_left _ _ (by simp; omega)]
 have hg1 : ∀ a o l, ((V.set c a).set j o ++ l)[c]? = some a := fun a o l => by rw [List.getElem?_append_left (by simp; omega), List.getElem?_set_ne hne.symm, List.getElem?_set_self hlt.1]
 have hs2 : ∀ a o l b, ((V.set c a).set j o ++ l).set c b = (V.set j o).set c b ++ l := fun a o l b => by rw [List.set_append_left _ _ (by simp; omega), List.set_comm _ _ hne.symm, List.set_set, List.set_comm _ _ hne, List.set_comm _ _ hne.symm]
 have hwr := wr32 _ hsh
 have hon := ones8 (sha o.sc.b)
 refine CallA.eV 9 func20 ntmps20 results20 ?_
 simp -dsimp +decide only [vp0, ↓reduceIte, Nat.reduceSub, Nat.reduceAdd]
 refine SemA.draw (fun i => decide (i = c ∨ i = V.length)) [(0, true), (1, true), (2, true), (3, false), (4, false), (5, false), (6, false)] mixed (by kernel_rfl) ?_
 simp -dsimp +decide (disch := omega) only [vp0, ty, en, ↓reduceIte, hor, gcl, keepO, kc, kc']
 refine (sum_ok (ok.s.bs _)).det' ?_
 simp -dsimp +decide (disch := omega) only [vq, ty, ↓reduceIte, Nat.reduceMul, Nat.reduceLT, vt, hor, gjl, kc, kj, kj', tk32 _ hsh, hfl, z32_eq, rep1, z32_len, hwr, hon, wo8f, hsh, hcj, hVj, hjj, hu, hs1, hg1, hs2]
 have hA : ((V.set j (.buf 33 32 (hs.flatMap H8 ++ (sha o.sc.b).map by8))).set c (.cells 41 [.sl j 0 (hs.length + 1)])) = updH V c j (hs ++ [outH o]) := by
  rw [updH, List.flatMap_append, List.length_append]
  simp [outH, H8]
 rw [hA]
 refine ⟨⟨by omega, by omega⟩, ?_⟩
 have hl2 := updH_len V c j (hs ++ [outH o])
 refine Vw.cutN V.length (Nat.le_refl _) ?_
 refine Vw.done ?_
 rw [<- hl2, List.take_left, hl2]
 refine ⟨rfl, updH_wo wt.2.1 (decide_eq_false (by omega)) _, ?_⟩
 rw [rec1, rec1, if_pos hlt.1, if_pos hlt.2]; rfl
theorem clone_nil {T : Tbl} : CallA prog G 62 [.p (.slice none 0 0)] T fun v T' es => v = .p (.slice none 0 0) /\ T' = T /\ es = [] := by
 refine CallA.eV 8 func62 ntmps62 results62 ?_
 simp -dsimp +decide only [vp0, ↓reduceIte, Nat.reduceSub]
 refine ⟨.bool true, fun w _ => (by kernel_rfl), ?_⟩
 simp -dsimp +decide only [vp0, ↓reduceIte]
 exact Vw.done ⟨rfl, rfl, rfl⟩
def nsh (n : UInt64) : Nat -> UInt64
 | 0 => n
 | t + 1 => u64_shr (nsh n t) 8
def lbs (n : UInt64) (k : Nat) : List UInt8 := (List.range k).map fun i => (nsh n i).toUInt8
theorem lbs_next (n : UInt64) (k : Nat) : lbs n (k + 1) = lbs n k ++ [(nsh n k).toUInt8] := by simp [lbs, List.range_succ]
theorem lbs_len (n : UInt64) (k : Nat) : (lbs n k).length = k := by simp [lbs]
def ptb (T : Tbl) (n : UInt64) : Nat -> Tbl
 | 0 => T
 | t + 1 => T ++ [.buf 5 1 [by8 n.toUInt8], .buf 5 1 ((lbs n (t + 1)).map by8)]
theorem put_nil {T : Tbl} {n : UInt64} {k : Nat} (hk : okSize k) : CallA prog G 35 [.p (.slice none 0 0), .p (.int .u64 (n.toNat : Int)), .p (.int .i64 (k : Int))] T fun v T' es => v = .sl (T.length + 1) 0 k /\ T' = T ++ [.buf 5 1 [by8 n.toUInt8], .buf 5 1 ((lbs n k).map by8)] /\ es = [] := by
 have hk8 : 0 < k /\ k <= 8 := by unfold okSize at hk; omega
 have hs1 : ((k : Int) = 1 ∨ (k : Int) = 2 ∨ (k : Int) = 4 ∨ (k : Int) = 8) = True := by unfold okSize at hk; simp; omega
 refine CallA.wfs fun wf => ?_
 have wt := wf.t
 refine CallA.eV 26 func35 ntmps35 results35 ?_
 simp -dsimp +decide only [vp0, en, ↓reduceIte, Nat.reduceSub, Nat.reduceAdd]
 refine clone_nil.det ?_
 simp -dsimp +decide only [va, en, ↓reduceIte]
 refine oright_ok.det ?_
 simp -dsimp +decide only [vp0, ↓reduceIte, hs1]
 refine SemA.loopC (fun t : Nat => [(1, .p (.int .u64 ((nsh n t).toNat : Int))), (7, if t = 0 then .p (.slice none 0 0) else .sl (T.length + 1) 0 t), (14, wint (k : Int)), (15, wint (t : Int))]) (ptb T n) (fun t => t <= k) (fun t => k - t) (T.length + 2) 0 [] (by kernel_rfl) (by omega) (by omega) (by (simp -dsimp +decide only [vq, ↓reduceIte, Nat.reduceAdd, ci]); rfl) rfl (by simp) ?_
 rintro t g ht
 simp -dsimp +decide only [vq, ↓reduceIte, Nat.reduceAdd]
 refine CondP.dec (fun h => ?_) (fun h => ?_)
 . cases t with
   | zero =>
     simp -dsimp +decide (disch := omega) only [vr, ty, ↓reduceIte, Nat.reduceAdd, Int.reduceAdd, Int.reduceToNat, ci, vi, vt, wt, ptb]
     exact ⟨1, by omega, by omega, ⟨rfl, rfl, rfl⟩, rfl⟩
   | succ t =>
     have hne : (t + 1 = 0) = False := by simp
     have hsl := lbs_len n (t + 1)
     simp -dsimp +decide (disch := omega) only [vr, ty, ↓reduceIte, Nat.reduceAdd, Int.reduceToNat, vi, vt, wt, ptb, hsl, hne]
     refine ⟨by omega, t + 2, by omega, by omega, ⟨rfl, rfl, ?_⟩, ?_⟩
     . rw [show ((t + 1 : Nat) : Int) + 1 = ((t + 2 : Nat) : Int) by omega]
     . show _ = T ++ [AObj.buf 5 1 [by8 n.toUInt8], .buf 5 1 ((lbs n (t + 1 + 1)).map by8)]
       rw [lbs_next n (t + 1)]; rfl
 . have ht : t = k := by omega
   subst ht
   simp -dsimp +decide only [va, ↓reduceIte]
   cases t with
   | zero => omega
   | succ t => exact Vw.done ⟨rfl, rfl, rfl⟩
theorem le_nat (bs : List UInt8) (a : Nat) : ∀ k, k <= 8 -> (le bs a k).toNat < 2 ^ (8 * k) /\ (k < 8 -> (le bs a (k + 1)).toNat = (le bs a k).toNat + (bs[a + k]!).toNat * 2 ^ (8 * k)) := by
 intro k
 induction k with
 | zero =>
   intro _
   refine ⟨by simp [le], fun _ => ?_⟩
   simp [le, u64_shl]
 | succ k ih =>
   intro hk
   obtain ⟨h1, h2⟩ := ih (by omega)
   have hb : (bs[a + k]!).toNat < 256 := UInt8.toNat_lt _
   have e := h2 (by omega)
   have hlt : (le bs a (k + 1)).toNat < 2 ^ (8 * (k + 1)) := by
    rw [e, show 8 * (k + 1) = 8 * k + 8 by omega, Nat.pow_add]
    have : (bs[a + k]!).toNat * 2 ^ (8 * k) <= 255 * 2 ^ (8 * k) := Nat.mul_le_mul_right _ (by omega)
    omega
   refine ⟨hlt, fun hk8 => ?_⟩
   have hb2 : (bs[a + (k + 1)]!).toNat < 256 := UInt8.toNat_lt _
   rw [le, UInt64.toNat_or]
   have hsh : (u64_shl (bs[a + (k + 1)]!).toUInt64 (8 * (k + 1))).toNat = (bs[a + (k + 1)]!).toNat <<< (8 * (k + 1)) := by
    have hp : (2 : Nat) ^ (8 * (k + 1)) <= 2 ^ 56 := Nat.pow_le_pow_right (by omega) (by omega)
    have hm : (bs[a + (k + 1)]!).toNat * 2 ^ (8 * (k + 1)) <= 255 * 2 ^ 56 := Nat.mul_le_mul (by omega) hp
    rw [u64_shl, if_pos (by omega), UInt64.toNat_shiftLeft, UInt64.toNat_ofNat', Nat.mod_eq_of_lt (a := 8 * (k + 1)) (b := 2 ^ 64) (by omega), Nat.mod_eq_of_lt (a := 8 * (k + 1)) (b := 64) (by omega), UInt8.toNat_toUInt64, Nat.shiftLeft_eq]
    exact Nat.mod_eq_of_lt (by omega)
   rw [hsh, Nat.or_comm, <- Nat.shiftLeft_add_eq_or_of_lt hlt, Nat.shiftLeft_eq]
   omega
theorem shr32 (x : UInt64) : (u64_shr x 32).toNat = x.toNat / 4294967296 := by
 rw [u64_shr, if_pos (by omega), UInt64.toNat_shiftRight]
 show x.toNat >>> 32 = _
 rw [Nat.shiftRight_eq_div_pow]
theorem and32 (x : UInt64) : (x &&& UInt64.ofInt 4294967295).toNat = x.toNat % 4294967296 := by
 rw [UInt64.toNat_and]
 show x.toNat &&& (2 ^ 32 - 1) = _
 rw [Nat.and_two_pow_sub_one_eq_mod]
theorem num_eq (h f : UInt64) (hf : f.toNat < 4294967296) : mulhi h f = u64_shr (u64_shr h 32 * f + u64_shr ((h &&& UInt64.ofInt 4294967295) * f) 32) 32 := by
 have hf0 : u64_shr f 32 = 0 := by apply UInt64.toNat_inj.1; rw [shr32]; simp; omega
 have hf1 : f &&& UInt64.ofInt 4294967295 = f := by apply UInt64.toNat_inj.1; rw [and32]; omega
 rw [mulhi, hf0, hf1]
 simp only [UInt64.mul_zero, UInt64.zero_add, UInt64.add_zero]
 have hz : ∀ x : UInt64, u64_shr (x &&& UInt64.ofInt 4294967295) 32 = 0 := by
  intro x; apply UInt64.toNat_inj.1; rw [shr32, and32]; simp
 rw [hz, UInt64.add_zero]
def f1 (h : List UInt8) : Value × AV := (hv h, .p (.int .i64 1))
theorem flat8 (l : List UInt8) : AV.flat (.ag (List.map by8 l)) = some (hv l) := by
 show (plains (List.map by8 l)).map (fun vs => Value.agg vs.toArray) = _
 rw [plains8]; rfl
theorem hv_fold (y : List UInt8) : Value.agg (List.map (fun x : UInt8 => Value.int .u8 (x.toNat : Int)) y).toArray = hv y := rfl
open Classical in
theorem mfind_f1 (acc : List (List UInt8)) (y : List UInt8) : mfind (acc.map f1) (hv y) = if y ∈ acc then some (.p (.int .i64 1)) else none := by
 unfold mfind
 induction acc with
 | nil => rfl
 | cons a r ih =>
   rw [List.map_cons, List.find?_cons]
   by_cases h : a = y
   . subst h; simp [f1]
   . have h2 : ¬ hv a = hv y := fun e => h (hv_inj e)
     simp only [f1, h2, decide_false]
     rw [show (List.find? (fun e => decide (e.1 = hv y)) (List.map f1 r)).map (·.2) = _ from ih]
     have h3 : ¬ y = a := fun e => h e.symm
     simp [List.mem_cons, h3]
theorem mset_f1 (acc : List (List UInt8)) (y : List UInt8) (h : y ∉ acc) : mset (acc.map f1) (hv y) (.p (.int .i64 1)) = (acc ++ [y]).map f1 := by
 unfold mset
 rw [mfind_f1, if_neg h]
 simp [f1]
theorem mapKO_f1 (acc : List (List UInt8)) (y : List UInt8) (h : H32 acc) (hy : y.length = 32) : mapKO prog 33 (acc.map f1) (hv y) = True := by
 refine eq_true ⟨_, ktH.kl, ktH.ky (fitH hy), fun e he => ?_⟩
 obtain ⟨x, hx, rfl⟩ := List.mem_map.1 he
 exact ktH.ky (fitH (h x hx))
theorem wo_f1 (q : Nat -> Bool) (acc : List (List UInt8)) : (acc.map f1).map (fun e => (e.1, AV.wo q e.2)) = acc.map f1 := by
 rw [List.map_map]
 refine List.map_congr_left fun x _ => ?_
 show (_, AV.wo q (.p _)) = _
 rw [AV.wo]; rfl
theorem unlike_ok {T : Tbl} {a : AV} {hs : List (List UInt8)} (hb : Es T 32 H8 a hs) (hl : hs.length <= 1099511627776) :
 CallA prog G 24 [a] T fun v T' es => v = .vs ((uniq hs).flatMap H8) (uniq hs).length /\ T' = T /\ es = [] := by
 have hr := Sl.rules hb.sl (by decide)
 have hld := hb.ld (P := prog) (t := 33) (by (simp -dsimp +decide only [])) (by (simp -dsimp +decide only [])) (by decide)
 refine CallA.wfs fun wf => ?_
 have wt := wf.t
 have wp := wf.p
 have wa := wf.arg a (by simp)
 refine CallA.eV 11 func24 ntmps24 results24 ?_
 simp -dsimp +decide only [vp0, ty, ↓reduceIte, Nat.reduceSub]
 simp -dsimp +decide (disch := omega) only [va, ↓reduceIte, hr]
 refine SemA.adopt 4 33 32 (by decide) rfl ?_
 simp -dsimp +decide only [vp0]
 refine SemA.loopC (fun s : Nat × List (List UInt8) => [(0, a), (3, .mp T.length), (4, .sl (T.length + 1) 0 s.2.length), (8, a), (9, wint (hs.length : Int)), (10, wint (s.1 : Int))]) (fun s => T ++ [.map (s.2.map f1), .buf 33 32 (s.2.flatMap H8)]) (fun s => s.1 <= hs.length /\ s.2.length <= s.1 /\ H32 s.2 /\ uniqF s.2 (hs.drop s.1) = uniq hs) (fun s => hs.length - s.1) (T.length + 2) (0, []) [] (by kernel_rfl) (by omega) ⟨by simp, by simp, (fun _ h => nomatch h), rfl⟩ (by (simp -dsimp +decide only [vq, Nat.reduceAdd, ci]); first | rfl | (and_intros <;> first | rfl | (simp; done))) ?_ (by simp) ?_
 . simp
 rintro ⟨i, acc⟩ g ⟨hi, hacc, h32, hu⟩
 dsimp only at hi hacc h32 hu
 simp -dsimp +decide only [vq, ↓reduceIte, Nat.reduceAdd]
 refine CondP.dec (fun h => ?_) (fun h => ?_)
 . obtain ⟨y, hy⟩ : ∃ y, hs[i]? = some y := ⟨hs[i]'(by omega), by simp⟩
   have hy32' : y.length = 32 := by simpa using hb.wd y (List.mem_of_getElem? hy)
   have hd : hs.drop i = y :: hs.drop (i + 1) := by
    obtain ⟨h1, rfl⟩ := List.getElem?_eq_some_iff.1 hy
    exact List.drop_eq_getElem_cons h1
   have hwr := wr32 y hy32'
   have hon := ones8 y
   have hko := mapKO_f1 acc y h32 hy32'
   have hmf := mfind_f1 acc y
   have hfl := flat_len (f := H8) (h8 h32)
   rw [hd, uniqF] at hu
   by_cases hin : y ∈ acc
   . rw [if_pos hin] at hu hmf
     simp -dsimp +decide (disch := omega) only [vq, ty, ↓reduceIte, Nat.reduceAdd, Nat.reduceLT, vi, hld, hy, hr, vt, wt, wa, z32_eq, z32_len, hwr, hon, hy32', tk32 y hy32', hv_fold, hko, hmf, wo_f1, wo8f]
     exact ⟨by omega, (i + 1, acc), ⟨by dsimp only; omega, by dsimp only; omega, h32, hu⟩, by dsimp only; omega, by first | rfl | (and_intros <;> first | rfl | (simp; done)), rfl⟩
   . rw [if_neg hin] at hu hmf
     have hms := mset_f1 acc y hin
     simp -dsimp +decide (disch := omega) only [vq, ty, ↓reduceIte, Nat.reduceAdd, Nat.reduceMul, Nat.reduceLT, vi, hld, hy, hr, vt, wt, wa, z32_eq, z32_len, hwr, hon, hy32', tk32 y hy32', hv_fold, hko, hmf, hms, rep1, wo8f, hfl, wo_f1]
     repeat (refine And.intro (by omega) ?_)
     refine ⟨(i + 1, acc ++ [y]), ⟨by dsimp only; omega, by simp; omega, ?_, hu⟩, by dsimp only; omega, by first | rfl | (and_intros <;> first | rfl | (simp; done)), ?_⟩
     . intro x hx
       rcases List.mem_append.1 hx with hx | hx
       . exact h32 x hx
       . simp at hx; subst hx; exact hy32'
     . simp
 . simp -dsimp +decide (disch := omega) only [va, ↓reduceIte]
   have hd : hs.drop i = [] := List.drop_eq_nil_of_le (by omega)
   rw [hd, uniqF] at hu
   refine Vw.pub (T.length + 1) (o := .buf 33 32 (acc.flatMap H8)) (by (simp -dsimp +decide only [va])) rfl (clean8f acc) ?_
   simp -dsimp +decide only [va, ↓reduceIte, wp]
   refine Vw.cut ⟨?_, rfl, rfl⟩
   rw [<- hu]; rfl
theorem tyF : tak prog 82 = some false /\ tsz prog 82 = 1 := by refine ⟨?_, ?_⟩ <;> kernel_rfl
def outL : Option TOut -> List (List UInt8)
 | some o => [outH o]
 | none => []
def ocs (t : TTx) : List AV := [t.oa]
structure Fm (V : Tbl) (mp m fc c j : Nat) (hs : List (List UInt8)) (A : List TTx) : Prop extends Th V c j hs where
 gp : V[mp]? = some (.cells 80 [.mp m])
 gf : V[fc]? = some (.cells 82 [.fn 20 [.ptr c 0]])
 es : ∃ es, V[m]? = some (.map es) /\ ∀ tx : List UInt8, tx.length = 32 -> mapKO prog 33 es (hv tx) /\
  ((mfind es (hv tx) = none /\ grp tx A = []) ∨ ∃ i, mfind es (hv tx) = some (.sl i 0 (grp tx A).length) /\ V[i]? = some (.buf 61 1 ((grp tx A).flatMap ocs)))
theorem from_ok {V : Tbl} {mp m fc c j : Nat} {hs : List (List UInt8)} {A : List TTx} (h : Fm V mp m fc c j hs A) (hA : ∀ t ∈ A, t.Ok) (hAl : A.length <= 1000000) (hl : hs.length <= 100000000) {tx : List UInt8} (htx : tx.length = 32) (n : UInt32) :
 CallA prog G 22 [.ag (plc tx n), .ptr mp 0, .ptr fc 0] V fun v T' es => v = .tu [] /\ T' = updH V c j (hs ++ outL (outO tx n A)) /\ es = EH c j := by
 refine CallA.wfs fun wf => ?_
 have wt := wf.t
 rw [outG_eq]
 obtain ⟨es, gm, hes⟩ := h.es
 obtain ⟨hko, hmf⟩ := hes tx htx
 have hko2 := eq_true hko
 have hGok : ∀ t ∈ grp tx A, t.Ok := fun t ht => hA t (List.mem_filter.1 ht).1
 have hGl : (grp tx A).length <= 1000000 := Nat.le_trans (List.length_filter_le _ _) hAl
 obtain ⟨G, hG⟩ : ∃ G, G = grp tx A := ⟨_, rfl⟩
 rw [<- hG] at hmf hGok hGl ⊢
 have gp := h.gp
 have gf := h.gf
 have lmp := (List.getElem?_eq_some_iff.1 gp).1
 have lfc := (List.getElem?_eq_some_iff.1 gf).1
 have lm := (List.getElem?_eq_some_iff.1 gm).1
 have hcj := h.lt
 have gpl : ∀ l, (V ++ l)[mp]? = some (.cells 80 [.mp m]) := fun l => by rw [List.getElem?_append_left lmp]; exact gp
 have gfl : ∀ l, (V ++ l)[fc]? = some (.cells 82 [.fn 20 [.ptr c 0]]) := fun l => by rw [List.getElem?_append_left lfc]; exact gf
 have gml : ∀ l, (V ++ l)[m]? = some (.map es) := fun l => by rw [List.getElem?_append_left lm]; exact gm
 have hpl : (plc tx n).length = 33 := by rw [plc, List.length_append, List.length_map, htx]; rfl
 have hp0 : List.take 32 (List.drop 0 (plc tx n)) = tx.map by8 := by rw [List.drop_zero, plc, List.take_append_of_le_length (by rw [List.length_map, htx]; decide), List.take_of_length_le (by rw [List.length_map, htx]; decide)]
 have hp1 : (plc tx n)[32]? = some (w32 n) := by rw [plc, List.getElem?_append_right (by rw [List.length_map, htx]; decide), List.length_map, htx]; rfl
 have hp2 : List.take 32 (plc tx n) = tx.map by8 := by have := hp0; rwa [List.drop_zero] at this
 have g0 := fun l => gn0 V (.cells 65 (plc tx n)) l
 have hwp : ∀ q, (plc tx n).map (AV.wo q) = plc tx n := fun q => by rw [plc, List.map_append, wb8]; simp only [List.map_cons, List.map_nil, w32, AV.wo]
 have hlk : ∃ q, (∀ K : AV -> Prop, lkK false (mfind es (hv tx)) (.slice none 0 0) K = K q) /\ Es V 1 ocs q G /\ ∀ k, AV.wo (fun x => decide (V.length + k <= x)) q = q := by
  rcases hmf with ⟨hmf, hG0⟩ | ⟨i, hmf, gi⟩
  . refine ⟨.p (.slice none 0 0), fun K => by rw [hmf]; rfl, ?_, fun k => by rw [AV.wo]⟩
    rw [hG0]; exact Es.nil
  . have li := (List.getElem?_eq_some_iff.1 gi).1
    refine ⟨.sl i 0 G.length, fun K => by rw [hmf]; rfl, Es.obj gi rfl fun _ _ => rfl, fun k => ?_⟩
    rw [AV.wo, if_neg (by simp; omega)]
 obtain ⟨q, hlk, hE, hwq⟩ := hlk
 have sE := slots_EH c j
 have rE := fun E => recE_EH (n := V.length) hcj.1 hcj.2 E
 have hsr := Sl.rules hE.sl (by decide)
 have hn1 : decide (V.length + 1 <= mp) = false := decide_eq_false (by omega)
 have hn2 : decide (V.length + 1 <= fc) = false := decide_eq_false (by omega)
 have hlsl := Sl.loads hE.sl (P := prog) (t := 61) (by (simp -dsimp +decide only []))
 refine CallA.eV 30 func22 ntmps22 results22 ?_
 simp -dsimp +decide only [vp0, ↓reduceIte, Nat.reduceSub, Nat.reduceAdd]
 simp -dsimp +decide (disch := omega) only [vq, ty, ↓reduceIte, gpl, gml, hpl, hp2, g0, hko2, hlk, hv_fold, hsr]
 refine SemA.loopK (V.length + 1) (fun k : Nat => [(1, .ptr mp 0), (2, .ptr fc 0), (3, .ptr V.length 0), (9, q), (10, wint (G.length : Int)), (11, wint (k : Int))]) (fun _ => V ++ [.cells 65 (plc tx n)]) (fun k => k <= G.length /\ outG n (G.drop k) = outG n G) (fun k => G.length - k) 0 [] 0 (fun _ : Unit => []) (fun _ => V ++ [.cells 65 (plc tx n)]) (fun _ => outG n G = none) (by omega) ⟨by omega, rfl⟩ (by (try (simp -dsimp +decide (disch := omega) only [vq, Nat.reduceAdd, ci])); first | done | (and_intros <;> first | with_reducible rfl | rfl) | rfl) rfl (by simp) ?_ ?_
 . rintro k g ⟨hk, hR⟩
   refine SemA.o ?_
   simp -dsimp +decide (disch := omega) only [vq, ↓reduceIte, Nat.reduceAdd]
   refine CondP.dec (fun hc => ?_) (fun hc => ?_)
   . obtain ⟨t, ht⟩ : ∃ t, G[k]? = some t := ⟨G[k]'(by omega), by simp⟩
     have hto := hGok t (List.mem_of_getElem? ht)
     have hol := hto.ol
     have hoa : (G.flatMap ocs)[k]? = some t.oa := by have := flat_cell hE.wd ht (j := 0) (by decide); rw [Nat.mul_one, Nat.add_zero] at this; rw [this]; rfl
     have hln := fun (Y : Tbl) s K => ((hto.o.es Y).sl).ln (K := K) s
     have hdr : G.drop k = t :: G.drop (k + 1) := by
      rw [List.drop_eq_getElem_cons (by omega)]
      rw [List.getElem?_eq_getElem (by omega)] at ht
      rw [Option.some.inj ht]
     rw [hdr, outG] at hR
     have e1 : (UInt64.ofInt (t.outs.length : Int)).toNat = t.outs.length := ofInt_lt (by omega)
     have e2 : n.toUInt64.toNat = n.toNat := by simp
     simp -dsimp +decide (disch := omega) only [vr, ty, ↓reduceIte, hp1, g0, hsr, hlsl, hoa, hln]
     refine ⟨⟨by omega, by omega⟩, CondP.dec (fun h2 => ?_) (fun h2 => ?_)⟩
     . obtain ⟨o, ho⟩ : ∃ o, t.outs[n.toNat]? = some o := ⟨t.outs[n.toNat]'(by omega), by simp⟩
       rw [if_pos (by omega), ho] at hR
       rw [<- hR]
       have hoo := hto.oo o (List.mem_of_getElem? ho)
       have hldo := fun (Y : Tbl) (K : AV -> Prop) => (show loadA prog 71 (t.oa.pl (n.toNat * 2)) Y K = K (.ag o.cs) by
        rw [((hto.o.es Y).ld (P := prog) (t := 71) (by (simp -dsimp +decide only [])) (by (simp -dsimp +decide only [])) (by decide)).2 n.toNat K (by omega), ho]
        rfl)
       have hixo := fun (Y : Tbl) (ik : IntKind) (z : Int) (K : AV -> Prop) => (hto.o.es Y).sl.ix (K := K) (by decide) ik z
       have kf : (V.length = fc) = False := eq_false (by omega)
       have kf' : (fc = V.length) = False := eq_false (by omega)
       refine SemA.draw (fun i => decide (i = fc ∨ i = V.length)) [(0, true), (1, true), (2, true), (3, true), (4, true), (5, true), (6, false)] mixed (by kernel_rfl) ?_
       simp -dsimp +decide (disch := omega) only [vr, ty, en, ↓reduceIte, vt, gfl, hp1, g0, hldo, hixo, keepO, kf, kf', tyF]
       have hT : Th (V ++ [.cells 65 (plc tx n)]) c j hs := h.toTh.app (by
        simp only [List.map_cons, List.map_nil, AObj.wo, hwp])
       refine ⟨by omega, (touch_ok hT hl hoo).det' ?_⟩
       rw [h.toTh.updA]
       simp -dsimp +decide (disch := omega) only [vp0, ↓reduceIte, sE, rE]
       have hl2 := updH_len V c j (hs ++ [outH o])
       refine Vw.cutN V.length (Nat.le_refl _) (Vw.done ?_)
       rw [<- hl2, List.take_left, hl2]
       refine ⟨by rw [AV.wo]; rfl, updH_wo wt.2.1 (decide_eq_false (by omega)) _, rfl⟩
     . rw [if_neg fun h => by omega] at hR
       simp -dsimp +decide (disch := omega) only [vt2, vze, vq, ↓reduceIte, Nat.reduceAdd, vi, vt, wt, hwp, hwq, hn1, hn2]
       exact ⟨k + 1, ⟨⟨by omega, hR⟩, by omega⟩, rfl⟩
   . have e : k = G.length := by omega
     subst e
     rw [List.drop_length] at hR
     simp -dsimp +decide (disch := omega) only [vt2, vze, vp0, ↓reduceIte, Nat.reduceAdd, vt, wt, hwp, hwq]
     exact ⟨(), hR.symm⟩
 . rintro _ g tmp hn
   rw [hn, outL, List.append_nil, updH_self h.toTh]
   simp -dsimp +decide (disch := omega) only [vp0, ↓reduceIte, Nat.reduceAdd]
   refine Vw.eff (E' := EH c j) (fun _ h => nomatch h) ?_
   exact Vw.cut ⟨rfl, rfl, rfl⟩
end Go.Proofs.YtmcbdlefakjpoaaGreatDoor
namespace Go.E
mutual
def AV.ren (f : Nat -> Option Nat) : AV -> AV
 | .ptr j o => match f j with | some k => .ptr k o | none => .any
 | .sl j o n => match f j with | some k => .sl k o n | none => .any
 | .mp j => match f j with | some k => .mp k | none => .any
 | .yl j => match f j with | some k => .yl k | none => .any
 | .ag cs => .ag (AV.renL f cs)
 | .tu cs => .tu (AV.renL f cs)
 | .fn g cs => .fn g (AV.renL f cs)
 | .ic t v => .ic t (AV.ren f v)
 | .p v => .p v
 | .any => .any
 | .vp cs o => .vp cs o
 | .vs cs n => .vs cs n
def AV.renL (f : Nat -> Option Nat) : List AV -> List AV
 | [] => []
 | a :: r => AV.ren f a :: AV.renL f r
end
theorem AV.renL_eq (f : Nat -> Option Nat) : ∀ (l : List AV), AV.renL f l = l.map (AV.ren f)
 | [] => by rw [AV.renL]; rfl
 | a :: r => by rw [AV.renL, AV.renL_eq f r]; rfl
def AObj.ren (f : Nat -> Option Nat) : AObj -> AObj
 | .cells T cs => .cells T (cs.map (AV.ren f))
 | .buf T sz cs => .buf T sz (cs.map (AV.ren f))
 | .map es => .map (es.map fun e => (e.1, e.2.ren f))
 | .raw o => .raw o
 | .rcd o cs vs => .rcd o (cs.map (AV.ren f)) vs
 | .gone => .gone
def RenP (f : Nat -> Option Nat) (ρ ρ' : List BI) : Prop := ∀ (j k : Nat) (x : BI), f j = some k -> ρ[j]? = some x -> ρ'[k]? = some x
section
variable {P : Program} {G : Nat -> AV} {Z Z' Z0 : Heap} {ρ ρ' ρ0 : List BI} {T T' T0 T1 S : Tbl} {w w' w0 : World} {a b : AV} {u v : Value} {K : AV -> Tbl -> Eff -> Prop} {cs : List AV} {vs : List Value} {es E : Eff}
variable {N n m : Nat} {ro : Option Nat} {ds loc : List AV} {tmp : List (Nat × AV)} {Nk R : AKont} {X : Nat -> AKont} {f : Nat -> Option Nat} {x : BI} {o : AObj}
theorem Rel.ren (h : Rel Z ρ a v) (hρ : RenP f ρ ρ') : Rel Z ρ' (a.ren f) v := by
 induction h generalizing ρ' with
 | p v => rw [AV.ren]; exact .p v
 | any v => rw [AV.ren]; exact .any v
 | ptr h hb => rw [AV.ren]; split <;> first | exact .any _ | (rename_i hk; exact .ptr (hρ _ _ _ hk h) hb)
 | sl h ha hc h0 => rw [AV.ren]; split <;> first | exact .any _ | (rename_i hk; exact .sl (hρ _ _ _ hk h) ha hc h0)
 | vp hb hc hr _ => rw [AV.ren]; exact .vp hb hc hr
 | vs0 h hc => rw [AV.ren]; exact .vs0 h hc
 | vs hm hb hc hr _ => rw [AV.ren]; exact .vs hm hb hc hr
 | ag hl _ ih => rw [AV.ren, AV.renL_eq]; exact .ag (by simpa using hl) fun k h1 h2 => by simpa using ih k (by simpa using h1) h2 hρ
 | tu hl _ ih => rw [AV.ren, AV.renL_eq]; exact .tu (by simpa using hl) fun k h1 h2 => by simpa using ih k (by simpa using h1) h2 hρ
 | fn hl _ ih => rw [AV.ren, AV.renL_eq]; exact .fn (by simpa using hl) fun k h1 h2 => by simpa using ih k (by simpa using h1) h2 hρ
 | ic _ ih => rw [AV.ren]; exact .ic (ih hρ)
 | mp h hb => rw [AV.ren]; split <;> first | exact .any _ | (rename_i hk; exact .mp (hρ _ _ _ hk h) hb)
 | yl h hb => rw [AV.ren]; split <;> first | exact .any _ | (rename_i hk; exact .yl (hρ _ _ _ hk h) hb)
theorem RelL.ren (h : RelL Z ρ cs vs) (hρ : RenP f ρ ρ') : RelL Z ρ' (cs.map (AV.ren f)) vs := by
 refine ⟨by simpa using h.1, fun k x y hx hy => ?_⟩
 rw [List.getElem?_map] at hx
 cases ha : cs[k]? with
 | none => rw [ha] at hx; cases hx
 | some a => rw [ha] at hx; cases hx; exact (h.2 k a y ha hy).ren hρ
theorem ObjRel.ren (h : ObjRel Z ρ w x o) (hρ : RenP f ρ ρ') : ObjRel Z ρ' w x (o.ren f) := by
 cases o with
 | cells T cs => obtain ⟨h0, b, vs, h1, h2, h3⟩ := h; exact ⟨h0, b, vs, h1, h2, h3.ren hρ⟩
 | buf T sz cs =>
   obtain ⟨h0, n, h1, h2, h3⟩ := h
   refine ⟨h0, n, by simpa using h1, h2, ?_⟩
   rcases h3 with ⟨h3, h4, h5⟩ | ⟨b, cur, h3, h4, h5, h6, h7⟩
   . exact .inl ⟨h3, by subst h4; rfl, h5⟩
   . exact .inr ⟨b, cur, h3, h4, h5, h6, h7.ren hρ⟩
 | map es =>
   obtain ⟨b, ms, c, h1, h2, h3, h4, h5⟩ := h
   refine ⟨b, ms, c, h1, h2, ?_, ?_, h5⟩
   . have := h3.ren hρ; simpa [List.map_map, Function.comp_def] using this
   . simpa [List.map_map, Function.comp_def] using h4
 | raw o => exact h
 | rcd o cs vs => obtain ⟨b, h1, h2, h3⟩ := h; exact ⟨b, h1, h2, h3.ren hρ⟩
 | gone => trivial
theorem AObj.live_ren (f : Nat -> Option Nat) (o : AObj) : (o.ren f).live = o.live := by cases o <;> rfl
def idxO : List Nat -> Nat -> Option Nat
 | [], _ => none
 | a :: r, k => if a = k then some 0 else (idxO r k).map (· + 1)
def permF (L : Nat) (p : List Nat) : Nat -> Option Nat := fun j => if j < L then some j else (idxO p (j - L)).map (L + ·)
theorem idxO_get : ∀ {p : List Nat} {k i : Nat}, idxO p k = some i -> p[i]? = some k
 | [], _, _, h => by cases h
 | a :: r, k, i, h => by
   rw [idxO] at h
   split at h
   . rename_i ha; cases h; rw [ha]; rfl
   . cases hi : idxO r k with
     | none => rw [hi] at h; cases h
     | some j => rw [hi] at h; cases h; show r[j]? = some k; exact idxO_get hi
theorem St.perm (h : St Z ρ (T1 ++ S) w) (p : List Nat) (hp : p.Nodup) (hS : ∀ j ∈ p, j < S.length) : ∃ ρ', St Z ρ' (T1.map (AObj.ren (permF T1.length p)) ++ p.map fun j => (S[j]?.getD .gone).ren (permF T1.length p)) w /\ RenP (permF T1.length p) ρ ρ' := by
 have hl := h.len
 rw [List.length_append] at hl
 let g : Nat -> Nat := fun k => if k < T1.length then k else T1.length + p[k - T1.length]?.getD 0
 obtain ⟨m, hm⟩ : ∃ m, m = T1.length + p.length := ⟨_, rfl⟩
 have hg : ∀ k, k < m -> g k < ρ.length := fun k hk => by
  show (if k < T1.length then k else T1.length + p[k - T1.length]?.getD 0) < _
  split
  . omega
  . have : k - T1.length < p.length := by omega
    rw [List.getElem?_eq_getElem this, Option.getD_some]
    have := hS _ (List.getElem_mem this)
    omega
 have hρ' : ∀ k, ((List.range m).map fun k => ρ[g k]?.getD ⟨none, 0, false⟩)[k]? = if k < m then ρ[g k]? else none := fun k => by
  by_cases hk : k < m
  . rw [if_pos hk, List.getElem?_map, List.getElem?_range hk, Option.map_some, List.getElem?_eq_getElem (hg k hk)]; rfl
  . rw [if_neg hk]; exact List.getElem?_eq_none (by simp; omega)
 have hf : ∀ j k, permF T1.length p j = some k -> k < m /\ g k = j := fun j k hj => by
  unfold permF at hj
  split at hj
  . cases hj; exact ⟨by omega, if_pos (by assumption)⟩
  . cases hi : idxO p (j - T1.length) with
    | none => rw [hi] at hj; cases hj
    | some i =>
      rw [hi] at hj; cases hj
      have := idxO_get hi
      have hil := (List.getElem?_eq_some_iff.1 this).1
      refine ⟨show T1.length + i < m by omega, ?_⟩
      show (if T1.length + i < T1.length then _ else _) = _
      rw [if_neg (by omega), show T1.length + i - T1.length = i by omega, this, Option.getD_some]; omega
 have hren : RenP (permF T1.length p) ρ ((List.range m).map fun k => ρ[g k]?.getD ⟨none, 0, false⟩) := fun j k x hj hx => by
  obtain ⟨h1, h2⟩ := hf j k hj
  rw [hρ', if_pos h1, h2, hx]
 have hinj : ∀ k k', k < m -> k' < m -> g k = g k' -> k = k' := fun k k' hk hk' he => by
  have he' : (if k < T1.length then k else T1.length + p[k - T1.length]?.getD 0) = (if k' < T1.length then k' else T1.length + p[k' - T1.length]?.getD 0) := he
  split at he' <;> split at he'
  . exact he'
  . omega
  . omega
  . have h1 : k - T1.length < p.length := by omega
    have h2 : k' - T1.length < p.length := by omega
    rw [List.getElem?_eq_getElem h1, List.getElem?_eq_getElem h2, Option.getD_some, Option.getD_some] at he'
    have := (List.getElem_inj (h₀ := h1) (h₁ := h2) hp).1 (by omega)
    omega
 have hT' : ∀ (k : Nat) (o' : AObj), (T1.map (AObj.ren (permF T1.length p)) ++ p.map fun j => (S[j]?.getD .gone).ren (permF T1.length p))[k]? = some o' -> k < m /\ ∃ o, (T1 ++ S)[g k]? = some o /\ o' = o.ren (permF T1.length p) := fun k o' ho => by
  by_cases hk : k < T1.length
  . rw [List.getElem?_append_left (by simpa using hk), List.getElem?_map, List.getElem?_eq_getElem hk] at ho
    cases ho
    refine ⟨by omega, T1[k], ?_, rfl⟩
    rw [show g k = k from if_pos hk, List.getElem?_append_left hk, List.getElem?_eq_getElem hk]
  . rw [List.getElem?_append_right (by simp; omega), List.length_map, List.getElem?_map] at ho
    cases hj : p[k - T1.length]? with
    | none => rw [hj] at ho; cases ho
    | some j =>
      rw [hj] at ho; cases ho
      have hkl := (List.getElem?_eq_some_iff.1 hj).1
      have hjS := hS j (List.mem_of_getElem? hj)
      refine ⟨by omega, S[j], ?_, ?_⟩
      . rw [show g k = T1.length + j by show (if k < T1.length then _ else _) = _; rw [if_neg hk, hj]; rfl, List.getElem?_append_right (by omega), show T1.length + j - T1.length = j by omega, List.getElem?_eq_getElem hjS]
      . show AObj.ren _ (S[j]?.getD .gone) = _; rw [List.getElem?_eq_getElem hjS]; rfl
 refine ⟨_, ⟨h.of, by simp [hm], fun k o' x ho hx => ?_, fun k o' x b ho hl2 hx hb => ?_⟩, hren⟩
 . obtain ⟨hk, o, h1, rfl⟩ := hT' k o' ho
   rw [hρ', if_pos hk] at hx
   exact (h.obj _ _ _ h1 hx).ren hren
 . obtain ⟨hk, o, h1, rfl⟩ := hT' k o' ho
   rw [hρ', if_pos hk] at hx
   rw [AObj.live_ren] at hl2
   obtain ⟨g1, g2⟩ := h.apart _ o x b h1 hl2 hx hb
   refine ⟨g1, fun k2 o2 y hne ho2 hl3 hy => ?_⟩
   obtain ⟨hk2, o3, h3, rfl⟩ := hT' k2 o2 ho2
   rw [hρ', if_pos hk2] at hy
   rw [AObj.live_ren] at hl3
   exact g2 _ o3 y (fun e => hne (hinj _ _ hk2 hk e)) h3 hl3 hy
theorem Frm.perm (h : Frm G Z0 ρ0 T0 w0 Z ρ (T1 ++ S) w E) (p : List Nat) (hp : p.Nodup) (hS : ∀ j ∈ p, j < S.length) (hN : ρ0.length <= T1.length) : ∃ ρ', Frm G Z0 ρ0 T0 w0 Z ρ' (T1.map (AObj.ren (permF T1.length p)) ++ p.map fun j => (S[j]?.getD .gone).ren (permF T1.length p)) w E /\ RenP (permF T1.length p) ρ ρ' := by
 obtain ⟨ρ', h1, h2⟩ := h.st.perm p hp hS
 have hid : ∀ i, i < T1.length -> permF T1.length p i = some i := fun i hi => if_pos hi
 refine ⟨ρ', ⟨h.g, h1, ⟨h.ext.le, fun i x hx hn => ?_, fun i x o b h3 h4 h5 h6 h7 => ?_⟩⟩, h2⟩
 . have hi := (List.getElem?_eq_some_iff.1 hx).1
   exact h2 i i x (hid i (by omega)) (h.ext.place i x hx hn)
 . obtain ⟨g1, o', g2, g3⟩ := h.ext.same i x o b h3 h4 h5 h6 h7
   have hi := (List.getElem?_eq_some_iff.1 h5).1
   refine ⟨g1, o'.ren (permF T1.length p), ?_, by rwa [AObj.live_ren]⟩
   rw [List.getElem?_append_left (by omega)] at g2
   rw [List.getElem?_append_left (by simp; omega), List.getElem?_map, g2]; rfl
theorem RelT.ren {tmp : List (Nat × AV)} {tv : List (Nat × Value)} (h : RelT Z ρ tmp tv) (hρ : RenP f ρ ρ') : RelT Z ρ' (tmp.map fun p => (p.1, p.2.ren f)) tv := by
 induction h with
 | nil => exact .nil
 | cons h hs ih => exact .cons (h.ren hρ) ih
theorem SeeL.perm {ds' : List AV} {L : List (Nat × AV)} {E' : Eff} (T1 S : Tbl) (p : List Nat) (hT : T = T1 ++ S) (hp : p.Nodup) (hS : ∀ j ∈ p, j < S.length) (hN : N <= T1.length) (hw : T1.map (AObj.ren (permF T1.length p)) = T1)
 (h : SeeL G N n (ds.map (AV.ren (permF T1.length p))) (loc.map (AV.ren (permF T1.length p))) (T1 ++ p.map fun j => (S[j]?.getD .gone).ren (permF T1.length p)) E ds' L T' E') : SeeL G N n ds loc T E ds' L T' E' := by
 subst hT
 intro Z0 ρ0 T0 w0 Z ρ w dv lv hN' hf ha
 obtain ⟨ρ', h1, h2⟩ := hf.perm p hp hS (by omega)
 rw [hw] at h1
 exact h Z0 ρ0 T0 w0 Z ρ' w dv lv hN' h1 ⟨ha.ds.ren h2, ha.loc.ren h2, .nil⟩
theorem SemA.perm {c : Code} (T1 S : Tbl) (p : List Nat) (hT : T = T1 ++ S) (hp : p.Nodup) (hS : ∀ j ∈ p, j < S.length) (hN : N <= T1.length) (hw : T1.map (AObj.ren (permF T1.length p)) = T1)
 (h : SemA P G N ro n m c (ds.map (AV.ren (permF T1.length p))) (loc.map (AV.ren (permF T1.length p))) (tmp.map fun q => (q.1, q.2.ren (permF T1.length p))) (T1 ++ p.map fun j => (S[j]?.getD .gone).ren (permF T1.length p)) E Nk X R) : SemA P G N ro n m c ds loc tmp T E Nk X R := by
 subst hT
 refine SemA.view ?_ h
 intro Z0 ρ0 T0 w0 Z ρ w dv lv tv hN' hf ha
 obtain ⟨ρ', h1, h2⟩ := hf.perm p hp hS (by omega)
 rw [hw] at h1
 exact ⟨Z, ρ', h1, ⟨ha.ds.ren h2, ha.loc.ren h2, ha.tmp.ren h2⟩⟩
end
mutual
theorem AV.ren_of {f : Nat -> Option Nat} {q : Nat -> Bool} (hq : ∀ j, q j = false -> f j = some j) : ∀ a : AV, a.wo q = a -> a.ren f = a
 | .ptr j o, h => by
   rw [AV.wo] at h; split at h
   . cases h
   . rename_i hj; rw [AV.ren, hq j (by simpa using hj)]
 | .sl j o n, h => by
   rw [AV.wo] at h; split at h
   . cases h
   . rename_i hj; rw [AV.ren, hq j (by simpa using hj)]
 | .mp j, h => by
   rw [AV.wo] at h; split at h
   . cases h
   . rename_i hj; rw [AV.ren, hq j (by simpa using hj)]
 | .yl j, h => by
   rw [AV.wo] at h; split at h
   . cases h
   . rename_i hj; rw [AV.ren, hq j (by simpa using hj)]
 | .ag cs, h => by rw [AV.wo] at h; injection h with h; rw [AV.ren, AV.renL_of hq cs h]
 | .tu cs, h => by rw [AV.wo] at h; injection h with h; rw [AV.ren, AV.renL_of hq cs h]
 | .fn g cs, h => by rw [AV.wo] at h; injection h with h1 h2; rw [AV.ren, AV.renL_of hq cs h2]
 | .ic t v, h => by rw [AV.wo] at h; injection h with h1 h2; rw [AV.ren, AV.ren_of hq v h2]
 | .p v, _ => by rw [AV.ren]
 | .any, _ => by rw [AV.ren]
 | .vp cs o, _ => by rw [AV.ren]
 | .vs cs n, _ => by rw [AV.ren]
theorem AV.renL_of {f : Nat -> Option Nat} {q : Nat -> Bool} (hq : ∀ j, q j = false -> f j = some j) : ∀ l : List AV, AV.woL q l = l -> AV.renL f l = l
 | [], _ => by rw [AV.renL]
 | a :: r, h => by rw [AV.woL] at h; injection h with h1 h2; rw [AV.renL, AV.ren_of hq a h1, AV.renL_of hq r h2]
end
section
variable {f : Nat -> Option Nat} {q : Nat -> Bool}
theorem cs_ren (hq : ∀ j, q j = false -> f j = some j) {cs : List AV} (h : cs.map (AV.wo q) = cs) : cs.map (AV.ren f) = cs := by
 rw [<- AV.renL_eq]; rw [<- AV.woL_eq] at h; exact AV.renL_of hq cs h
theorem obj_ren (hq : ∀ j, q j = false -> f j = some j) {o : AObj} (h : o.wo q = o) : o.ren f = o := by
 cases o with
 | cells T cs => rw [AObj.wo] at h; injection h with h1 h2; rw [AObj.ren, cs_ren hq h2]
 | buf T sz cs => rw [AObj.wo] at h; injection h with h1 h2 h3; rw [AObj.ren, cs_ren hq h3]
 | map es =>
   rw [AObj.wo] at h; injection h with h1
   rw [AObj.ren]
   congr 1
   refine List.ext_getElem (by simp) fun k g1 g2 => ?_
   have := congrArg (·[k]?) h1
   simp [g2] at this
   have h3 : (es[k]).2.wo q = (es[k]).2 := congrArg (·.2) this
   simp [AV.ren_of hq _ h3]
 | raw o => rfl
 | rcd o cs vs => rw [AObj.wo] at h; injection h with h1 h2 h3; rw [AObj.ren, cs_ren hq h2]
 | gone => rfl
theorem tbl_ren (hq : ∀ j, q j = false -> f j = some j) {T : Tbl} (h : T.map (AObj.wo q) = T) : T.map (AObj.ren f) = T := by
 refine List.ext_getElem (by simp) fun k g1 g2 => ?_
 have := congrArg (·[k]?) h
 simp [g2] at this
 simp [obj_ren hq this]
end
theorem permF_id (L : Nat) (p : List Nat) : ∀ j, decide (L <= j) = false -> permF L p j = some j := fun j h => if_pos (by simpa using h)
theorem ren_all {f : Nat -> Option Nat} {cs : List AV} (h : ∀ q, cs.map (AV.wo q) = cs) : cs.map (AV.ren f) = cs :=
 cs_ren (q := fun j => !decide (f j = some j)) (fun j hj => by simpa using hj) (h _)
theorem ren_all1 {f : Nat -> Option Nat} {a : AV} (h : ∀ q, a.wo q = a) : a.ren f = a :=
 AV.ren_of (q := fun j => !decide (f j = some j)) (fun j hj => by simpa using hj) a (h _)
theorem vn (f : Nat -> Option Nat) (L : Nat) (p : List Nat) : (∀ j o, AV.ren f (.ptr j o) = match f j with | some k => .ptr k o | none => .any) /\ (∀ j o n, AV.ren f (.sl j o n) = match f j with | some k => .sl k o n | none => .any) /\ (∀ j, AV.ren f (.mp j) = match f j with | some k => .mp k | none => .any) /\
 (∀ cs, AV.ren f (.ag cs) = .ag (cs.map (AV.ren f))) /\ (∀ cs, AV.ren f (.tu cs) = .tu (cs.map (AV.ren f))) /\ (∀ g cs, AV.ren f (.fn g cs) = .fn g (cs.map (AV.ren f))) /\ (∀ v, AV.ren f (.p v) = .p v) /\ (AV.ren f .any = .any) /\ (∀ cs o, AV.ren f (.vp cs o) = .vp cs o) /\ (∀ cs n, AV.ren f (.vs cs n) = .vs cs n) /\
 (∀ T cs, AObj.ren f (.cells T cs) = .cells T (cs.map (AV.ren f))) /\ (∀ T sz cs, AObj.ren f (.buf T sz cs) = .buf T sz (cs.map (AV.ren f))) /\ (AObj.ren f .gone = .gone) /\ (∀ es, AObj.ren f (.map es) = .map (es.map fun e => (e.1, e.2.ren f))) /\
 (∀ k, permF L p (L + k) = (idxO p k).map (L + ·)) /\ (permF L p L = (idxO p 0).map (L + ·)) :=
 ⟨fun _ _ => by rw [AV.ren], fun _ _ _ => by rw [AV.ren], fun _ => by rw [AV.ren], fun _ => by rw [AV.ren, AV.renL_eq], fun _ => by rw [AV.ren, AV.renL_eq], fun _ _ => by rw [AV.ren, AV.renL_eq], fun _ => by rw [AV.ren], by rw [AV.ren], fun _ _ => by rw [AV.ren], fun _ _ => by rw [AV.ren],
  fun _ _ => rfl, fun _ _ _ => rfl, rfl, fun _ => rfl, fun k => by unfold permF; rw [if_neg (by omega), show L + k - L = k by omega], by unfold permF; rw [if_neg (by omega), Nat.sub_self]⟩
end Go.E
namespace Go.E
section
variable {P : Program} {G : Nat -> AV} {Z Z' Z0 : Heap} {ρ ρ' ρ0 : List BI} {T T' T0 : Tbl} {w w' w0 : World} {a b : AV} {u v : Value} {K : AV -> Tbl -> Eff -> Prop} {cs : List AV} {es E : Eff}
variable {N n m : Nat} {ro : Option Nat} {ds loc : List AV} {tmp : List (Nat × AV)} {Nk R : AKont} {X : Nat -> AKont}
def SK {σ : Type} (G : Nat -> AV) (N n : Nat) (ds : List AV) (L : σ -> List (Nat × AV)) (Tb : σ -> Tbl) (Q : σ -> Prop) (Ei : Eff) : AKont := fun ds' loc' _ T' E' => ∃ s, Q s /\ SeeL G N n ds' loc' T' E' ds (L s) (Tb s) Ei
section
variable {σ τ : Type} {L : σ -> List (Nat × AV)} {Tb : σ -> Tbl} {Q : σ -> Prop} {Ei : Eff} {k : Nat}
theorem SK.elim {dv : List Nat} {lv : List Value} {tv : List (Nat × Value)} (hN : ρ0.length = N) (h : LK G Z0 ρ0 T0 w0 (SK G N n ds L Tb Q Ei) dv lv tv w) :
 ∃ s loc Z ρ, Q s /\ Lc n (L s) loc /\ Frm G Z0 ρ0 T0 w0 Z ρ (Tb s) w Ei /\ At Z ρ ds loc (tv.map fun p => (p.1, AV.p p.2)) dv lv tv := by
 obtain ⟨Z, ρ, T, E, ds1, loc, tmp, hf, h1, h2, h3, s, hs, hv⟩ := h
 obtain ⟨Z', ρ', loc', k1, k2, k3⟩ := hv Z0 ρ0 T0 w0 Z ρ w dv lv hN hf ⟨h1, h2, .nil⟩
 have key : ∀ (tv : List (Nat × Value)), RelT Z' ρ' (tv.map fun p => (p.1, AV.p p.2)) tv := fun tv => by
  induction tv with
  | nil => exact .nil
  | cons p r ih => exact .cons (.p _) ih
 exact ⟨s, loc', Z', ρ', hs, k3, k1, ⟨k2.ds, k2.loc, key tv⟩⟩
theorem SK.to {dv : List Nat} {lv : List Value} {tv : List (Nat × Value)} {K : AKont} (hN : ρ0.length = N) (h : LK G Z0 ρ0 T0 w0 (SK G N n ds L Tb Q Ei) dv lv tv w)
 (hK : ∀ s g tmp, Q s -> K ds (mkA g (L s) 0 n) tmp (Tb s) Ei) : LK G Z0 ρ0 T0 w0 K dv lv tv w := by
 obtain ⟨s, loc, Z, ρ, hs, hl, hf, ha⟩ := SK.elim hN h
 obtain ⟨g, rfl⟩ := hl.elim
 exact ⟨Z, ρ, _, _, _, _, _, hf, ha.ds, ha.loc, ha.tmp, hK s g _ hs⟩
theorem SemA.loopS {c : Code} (L : σ -> List (Nat × AV)) (Tb : σ -> Tbl) (Q : σ -> Prop) (μ : σ -> Nat) (s0 : σ) (Ei : Eff) (xi : Nat) (Le : τ -> List (Nat × AV)) (Te : τ -> Tbl) (Qe : τ -> Prop) (hQ : Q s0) (hL : Lc n (L s0) loc) (hT : T = Tb s0) (hE : ∀ x ∈ E, x ∈ Ei)
 (round : ∀ s g, Q s -> SemA P G N ro n m c ds (mkA g (L s) 0 n) [] (Tb s) Ei (SK G N n ds L Tb (fun s' => Q s' /\ μ s' < μ s) Ei) (fun j => if j = xi then SK G N n ds Le Te Qe Ei else X j) R)
 (exit : ∀ s g tmp, Qe s -> X xi ds (mkA g (Le s) 0 n) tmp (Te s) Ei) : SemA P G N ro n m (.loop c) ds loc [] T E Nk X R := by
 intro Z0 ρ0 T0 w0 Z ρ w dv lv tv hN hf ha a haa Qs hQs
 refine wpIn_loop_ghost (fun k a w => ∃ (Z : Heap) (ρ : List BI) (s : σ) (loc : List AV) (dv : List Nat) (lv : List Value) (tv : List (Nat × Value)), Fits' n m dv lv tv a /\ Frm G Z0 ρ0 T0 w0 Z ρ (Tb s) w Ei /\ At Z ρ ds loc [] dv lv [] /\ (Q s /\ Lc n (L s) loc) /\ μ s = k)
  (μ s0) ⟨Z, ρ, s0, loc, dv, lv, tv, haa, hT ▸ hf.more hE, ha.clear, ⟨hQ, hL⟩, rfl⟩ ?_
 rintro k' a w ⟨Z, ρ, s, loc, dv, lv, tv, haa, hf, hat, ⟨hI, hL⟩, rfl⟩
 obtain ⟨g, rfl⟩ := hL.elim
 have hr := round s g hI Z0 ρ0 T0 w0 Z ρ w dv lv [] hN hf hat
 refine hr a haa.cleared _ fun e dv' lv' tv' w' a' haa' hq => ?_
 cases e with
 | normal =>
   obtain ⟨s', loc', Z', ρ', ⟨h1, h2⟩, hl', h3, h4⟩ := SK.elim hN hq
   exact ⟨_, h2, Z', ρ', s', _, dv', lv', tv', haa', h3, ⟨h4.ds, h4.loc, .nil⟩, ⟨h1, hl'⟩, rfl⟩
 | exit i =>
   simp only [mkQ] at hq
   split at hq
   . rename_i hi; subst hi; exact hQs (.exit _) _ _ _ _ _ haa' (SK.to hN hq exit)
   . exact hQs (.exit i) _ _ _ _ _ haa' hq
 | ret => exact hQs .ret _ _ _ _ _ haa' hq
 | _ => exact hq.elim
theorem SemA.cutS (dsC : List AV) (L : σ -> List (Nat × AV)) (Tb : σ -> Tbl) (Q : σ -> Prop) (Ei : Eff) : ∀ (k : Nat) {c c1 c2 : Code} {ds loc : List AV} {tmp : List (Nat × AV)} {T : Tbl} {E : Eff}, spl k c = some (c1, c2) -> codeOK m c1 = true ->
 codeA P G N ro n m c1 ds loc tmp T E (SK G N n dsC L Tb Q Ei) X R -> (∀ s g tmp, Q s -> SemA P G N ro n m c2 dsC (mkA g (L s) 0 n) tmp (Tb s) Ei Nk X R) -> SemA P G N ro n m c ds loc tmp T E Nk X R
 | 0, c, c1, c2, _, _, _, _, _, hs, _, _, _ => by simp [spl] at hs
 | 1, c, c1, c2, ds, loc, tmp, T, E, hs, hok, h1, h2 => by
   cases c <;> simp only [spl] at hs <;> first | cases hs | skip
   refine SemA.seq (Mk := SK G N n dsC L Tb Q Ei) (SemA.of hok h1) ?_
   intro ds loc tmp T E hq
   intro Z0 ρ0 T0 w0 Z ρ w dv lv tv hN hf ha
   obtain ⟨s, loc', Z', ρ', hs, hl, hf', ha'⟩ := SK.elim (G := G) (Z0 := Z0) (ρ0 := ρ0) (T0 := T0) (w0 := w0) (w := w) (dv := dv) (lv := lv) (tv := tv) hN ⟨Z, ρ, T, E, ds, loc, tmp, hf, ha.ds, ha.loc, ha.tmp, hq⟩
   obtain ⟨g, rfl⟩ := hl.elim
   exact h2 s g _ hs Z0 ρ0 T0 w0 Z' ρ' w dv lv tv hN hf' ha'
 | k + 2, c, c1, c2, ds, loc, tmp, T, E, hs, hok, h1, h2 => by
   cases c <;> simp only [spl] at hs <;> first | cases hs | skip
   rename_i a r
   simp only [Option.map_eq_some_iff] at hs
   obtain ⟨⟨x, y⟩, hs1, hs2⟩ := hs
   simp only [Prod.mk.injEq] at hs2
   obtain ⟨rfl, rfl⟩ := hs2
   simp only [codeOK, Bool.and_eq_true] at hok
   refine SemA.seq (SemA.of hok.1 h1) ?_
   intro ds loc tmp T E h
   exact SemA.cutS dsC L Tb Q Ei (k + 1) hs1 hok.2 h h2
end
theorem SemA.ghost {c : Code} (h : SemA P G N ro n m c ds loc tmp (T ++ [.gone]) E Nk X R) : SemA P G N ro n m c ds loc tmp T E Nk X R := by
 refine SemA.view ?_ h
 intro Z0 ρ0 T0 w0 Z ρ w dv lv tv hN hf ha
 obtain ⟨k1, k2⟩ := hf.st.push (w' := w) ⟨none, 0, true⟩ .gone hf.st.of (fun _ _ => rfl) trivial (fun b hb => by cases hb)
 have h1 := hf.step k1 k2
 have h2 := ha.step k2
 exact ⟨_, _, h1, ⟨h2.ds, h2.loc, h2.tmp⟩⟩
end
theorem vsk {σ : Type} : ∀ (G : Nat -> AV) (N n : Nat) (ds : List AV) (L : σ -> List (Nat × AV)) (Tb : σ -> Tbl) (Q : σ -> Prop) (Ei : Eff) (ds' loc' : List AV) (tmp' : List (Nat × AV)) (T' : Tbl) (E' : Eff), SK G N n ds L Tb Q Ei ds' loc' tmp' T' E' = ∃ s, Q s /\ SeeL G N n ds' loc' T' E' ds (L s) (Tb s) Ei :=
 fun _ _ _ _ _ _ _ _ _ _ _ _ _ => rfl
end Go.E
namespace Go.Proofs.YtmcbdlefakjpoaaGreatDoor
open Go.E Go.Proofs.YtmcbdlefakjpoaaGreatDoor.Tryz Go.Proofs.Tryz
def ents : List (List UInt8) -> (Nat -> AV) -> List (Value × AV)
 | [], _ => []
 | x :: r, f => (hv x, f 0) :: ents r fun i => f (i + 1)
open Classical in
theorem mfind_cons (k : Value) (e : Value × AV) (r : List (Value × AV)) : mfind (e :: r) k = if e.1 = k then some e.2 else mfind r k := by
 unfold mfind
 rw [List.find?_cons]
 by_cases h : e.1 = k <;> simp [h]
theorem ents_find {x : List UInt8} : ∀ {ids : List (List UInt8)} {ix : Nat} {f : Nat -> AV}, ids.Nodup -> ids[ix]? = some x -> mfind (ents ids f) (hv x) = some (f ix)
 | [], _, _, _, h => by simp at h
 | a :: r, 0, f, _, h => by
   simp only [List.getElem?_cons_zero, Option.some.injEq] at h
   rw [ents, mfind_cons, h, if_pos rfl]
 | a :: r, ix + 1, f, hn, h => by
   rw [List.getElem?_cons_succ] at h
   have hm := List.mem_of_getElem? h
   rw [ents, mfind_cons, if_neg, ents_find (List.nodup_cons.1 hn).2 h]
   intro e
   exact (List.nodup_cons.1 hn).1 (hv_inj e ▸ hm)
theorem ents_none {x : List UInt8} : ∀ {ids : List (List UInt8)} {f : Nat -> AV}, x ∉ ids -> mfind (ents ids f) (hv x) = none
 | [], _, _ => rfl
 | a :: r, f, h => by
   rw [ents, mfind_cons, if_neg fun e => h (by rw [hv_inj e]; simp), ents_none fun e => h (by simp [e])]
theorem ents_congr : ∀ {ids : List (List UInt8)} {f g : Nat -> AV}, (∀ i, i < ids.length -> f i = g i) -> ents ids f = ents ids g
 | [], _, _, _ => rfl
 | a :: r, f, g, h => by rw [ents, ents, h 0 (by simp), ents_congr fun i hi => h (i + 1) (by simp; omega)]
theorem ents_map (g : AV -> AV) : ∀ (ids : List (List UInt8)) (f : Nat -> AV), (ents ids f).map (fun e => (e.1, g e.2)) = ents ids fun i => g (f i)
 | [], _ => rfl
 | a :: r, f => by rw [ents, List.map_cons, ents_map g r, ents]
open Classical in
theorem ents_skip {x : List UInt8} (v : AV) : ∀ {ids : List (List UInt8)} {f : Nat -> AV}, x ∉ ids -> ((ents ids f).map fun e => if e.1 = hv x then (hv x, v) else e) = ents ids f
 | [], _, _ => rfl
 | a :: r, f, h => by
   rw [ents, List.map_cons, if_neg fun e => h (by rw [hv_inj e]; simp), ents_skip v fun e => h (by simp [e])]
open Classical in
theorem ents_put {x : List UInt8} (v : AV) : ∀ {ids : List (List UInt8)} {ix : Nat} {f : Nat -> AV}, ids.Nodup -> ids[ix]? = some x -> ((ents ids f).map fun e => if e.1 = hv x then (hv x, v) else e) = ents ids fun i => if i = ix then v else f i
 | [], _, _, _, h => by simp at h
 | a :: r, 0, f, hn, h => by
   simp only [List.getElem?_cons_zero, Option.some.injEq] at h
   subst h
   rw [ents, List.map_cons, if_pos rfl, ents_skip v (List.nodup_cons.1 hn).1, ents, if_pos rfl]
   refine congrArg _ (ents_congr fun i hi => ?_)
   rw [if_neg (by omega)]
 | a :: r, ix + 1, f, hn, h => by
   rw [List.getElem?_cons_succ] at h
   have hm := List.mem_of_getElem? h
   rw [ents, List.map_cons, if_neg, ents_put v (List.nodup_cons.1 hn).2 h, ents, if_neg (by omega)]
   . refine congrArg _ (ents_congr fun i hi => ?_)
     by_cases e : i = ix
     . rw [if_pos e, if_pos (by omega)]
     . rw [if_neg e, if_neg (by omega)]
   . intro e
     exact (List.nodup_cons.1 hn).1 (hv_inj e ▸ hm)
theorem ents_set {x : List UInt8} (v : AV) {ids : List (List UInt8)} {ix : Nat} {f : Nat -> AV} (hn : ids.Nodup) (h : ids[ix]? = some x) : mset (ents ids f) (hv x) v = ents ids fun i => if i = ix then v else f i := by
 unfold mset
 rw [ents_find hn h]
 exact ents_put v hn h
theorem ents_snoc (x : List UInt8) (v : AV) : ∀ (ids : List (List UInt8)) (f : Nat -> AV), ents ids f ++ [(hv x, v)] = ents (ids ++ [x]) fun i => if i = ids.length then v else f i
 | [], f => rfl
 | a :: r, f => by
   rw [ents, List.cons_append, ents_snoc x v r, List.cons_append, ents, if_neg (by simp)]
   refine congrArg _ (ents_congr fun i hi => ?_)
   by_cases e : i = r.length
   . rw [if_pos e, if_pos (by simp [e])]
   . rw [if_neg e, if_neg (by simpa using e)]
theorem ents_new {x : List UInt8} (v : AV) {ids : List (List UInt8)} {f : Nat -> AV} (h : x ∉ ids) : mset (ents ids f) (hv x) v = ents (ids ++ [x]) fun i => if i = ids.length then v else f i := by
 unfold mset
 rw [ents_none h]
 exact ents_snoc x v ids f
theorem ents_ko : ∀ {ids : List (List UInt8)} {f : Nat -> AV}, H32 ids -> ∀ e ∈ ents ids f, ∃ x, x.length = 32 /\ e.1 = hv x
 | [], _, _, _, h => nomatch h
 | a :: r, f, h, e, he => by
   rcases List.mem_cons.1 he with rfl | he
   . exact ⟨a, h a (by simp), rfl⟩
   . exact ents_ko (fun x hx => h x (by simp [hx])) e he
theorem ents_mapKO {ids : List (List UInt8)} {f : Nat -> AV} (h : H32 ids) {y : List UInt8} (hy : y.length = 32) : mapKO prog 33 (ents ids f) (hv y) := by
 refine ⟨_, ktH.kl, ktH.ky (fitH hy), fun e he => ?_⟩
 obtain ⟨x, hx, hk⟩ := ents_ko h e he
 rw [hk]
 exact ktH.ky (fitH hx)
def bufs (A : List TTx) : Tbl := (ids1 A).map fun id => .buf 61 1 ((grp id A).flatMap ocs)
def fA (L : Nat) (A : List TTx) (ix : Nat) : AV := .sl (L + 5 + ix) 0 (grp ((ids1 A)[ix]?.getD []) A).length
def tbI (L : Nat) (hs : List (List UInt8)) (A : List TTx) : Tbl := [.map (ents (ids1 A) (fA L A)), .cells 80 [.mp L], .cells 41 [.sl (L + 4) 0 hs.length], .cells 82 [.fn 20 [.ptr (L + 2) 0]], .buf 33 32 (hs.flatMap H8)] ++ bufs A
theorem tbI_len (L : Nat) (hs : List (List UInt8)) (A : List TTx) : (tbI L hs A).length = 5 + (ids1 A).length := by
 rw [tbI, List.length_append, bufs, List.length_map]; rfl
theorem ocs_wo (q : Nat -> Bool) {l : List TTx} (h : ∀ t ∈ l, t.Ok) : (l.flatMap ocs).map (AV.wo q) = l.flatMap ocs := by
 induction l with
 | nil => rfl
 | cons t r ih => rw [List.flatMap_cons, List.map_append, ih fun u hu => h u (by simp [hu]), ocs, List.map_cons, List.map_nil, (h t (by simp)).o.k.wo]
theorem bufs_wo (q : Nat -> Bool) {A : List TTx} (h : ∀ t ∈ A, t.Ok) : (bufs A).map (AObj.wo q) = bufs A := by
 rw [bufs, List.map_map]
 refine List.map_congr_left fun id _ => ?_
 show AObj.wo q (.buf _ _ _) = _
 rw [AObj.wo, ocs_wo q (l := grp id A) fun t ht => h t (List.mem_filter.1 ht).1]
theorem tbI_wo {L : Nat} {hs : List (List UInt8)} {A : List TTx} (h : ∀ t ∈ A, t.Ok) {q : Nat -> Bool} (hq : ∀ i, i < 5 + (ids1 A).length -> q (L + i) = false) : (tbI L hs A).map (AObj.wo q) = tbI L hs A := by
 rw [tbI, List.map_append, bufs_wo q h]
 have e : (ents (ids1 A) (fA L A)).map (fun e => (e.1, AV.wo q e.2)) = ents (ids1 A) (fA L A) := by
  rw [ents_map]
  refine ents_congr fun i hi => ?_
  rw [fA, AV.wo, show L + 5 + i = L + (5 + i) by omega, hq _ (by omega)]; rfl
 have h0 : q L = false := hq 0 (by omega)
 simp only [List.map_cons, List.map_nil, AObj.wo, e, wo8f, AV.wo, AV.woL_eq, h0, hq 2 (by omega), hq 4 (by omega)]
 rfl
theorem tbI_th {T : Tbl} {hs : List (List UInt8)} {A : List TTx} (hT : ∀ k, T.map (AObj.wo fun i => i == T.length + k) = T) (h : ∀ t ∈ A, t.Ok) (h32 : H32 hs) {l : Tbl} (hl : l.map (AObj.wo fun i => i == T.length + 4) = l) : Th (T ++ (tbI T.length hs A ++ l)) (T.length + 2) (T.length + 4) hs := by
 refine ⟨?_, ?_, ?_, h32⟩
 . rw [List.getElem?_append_right (by omega), show T.length + 2 - T.length = 2 by omega]; rfl
 . rw [List.getElem?_append_right (by omega), show T.length + 4 - T.length = 4 by omega]; rfl
 . rw [List.map_append, List.map_append, hT 4, hl, tbI, List.map_append, bufs_wo _ h]
   have e : (ents (ids1 A) (fA T.length A)).map (fun e => (e.1, AV.wo (fun i => i == T.length + 4) e.2)) = ents (ids1 A) (fA T.length A) := by
    rw [ents_map]
    refine ents_congr fun i hi => ?_
    rw [fA, AV.wo, if_neg (by simp; omega)]
   rw [List.set_append_right _ _ (by omega), show T.length + 2 - T.length = 2 by omega]
   simp only [List.map_cons, List.map_nil, AObj.wo, e, wo8f, AV.wo, AV.woL_eq]
   simp
theorem tbI_updH {T : Tbl} (hs : List (List UInt8)) (A : List TTx) (l : Tbl) (h2 : List (List UInt8)) : updH (T ++ (tbI T.length hs A ++ l)) (T.length + 2) (T.length + 4) h2 = T ++ (tbI T.length h2 A ++ l) := by
 rw [updH, List.set_append_right _ _ (by omega), show T.length + 4 - T.length = 4 by omega, List.set_append_right _ _ (by omega), show T.length + 2 - T.length = 2 by omega]
 rfl
theorem ids1_get {A : List TTx} {tx : List UInt8} : (tx ∉ ids1 A /\ grp tx A = []) ∨ ∃ ix : Nat, (ids1 A)[ix]? = some tx := by
 by_cases h : tx ∈ ids1 A
 . obtain ⟨ix, hix, e⟩ := List.mem_iff_getElem.1 h
   exact .inr ⟨ix, by rw [List.getElem?_eq_getElem hix, e]⟩
 . exact .inl ⟨h, grp_none h⟩
theorem tbI_fm {T : Tbl} {hs : List (List UInt8)} {A : List TTx} (hT : ∀ k, T.map (AObj.wo fun i => i == T.length + k) = T) (h : ∀ t ∈ A, t.Ok) (h32 : H32 hs) {l : Tbl} (hl : l.map (AObj.wo fun i => i == T.length + 4) = l) : Fm (T ++ (tbI T.length hs A ++ l)) (T.length + 1) T.length (T.length + 3) (T.length + 2) (T.length + 4) hs A := by
 refine { tbI_th hT h h32 hl with gp := ?_, gf := ?_, es := ⟨ents (ids1 A) (fA T.length A), ?_, fun tx htx => ⟨ents_mapKO (ids1_32 A) htx, ?_⟩⟩ }
 . rw [List.getElem?_append_right (by omega), show T.length + 1 - T.length = 1 by omega]; rfl
 . rw [List.getElem?_append_right (by omega), show T.length + 3 - T.length = 3 by omega]; rfl
 . rw [List.getElem?_append_right (by omega), Nat.sub_self]; rfl
 . rcases ids1_get (A := A) (tx := tx) with ⟨h1, h2⟩ | ⟨ix, hix⟩
   . exact .inl ⟨ents_none h1, h2⟩
   . refine .inr ⟨T.length + 5 + ix, ?_, ?_⟩
     . rw [ents_find (ids1_nodup A) hix, fA, hix]; rfl
     . have hl := (List.getElem?_eq_some_iff.1 hix).1
       rw [List.getElem?_append_right (by omega), show T.length + 5 + ix - T.length = 5 + ix by omega, List.getElem?_append_left (by rw [tbI_len]; omega), tbI, List.getElem?_append_right (by simp), bufs]
       simp [hix]
theorem idxO_app : ∀ (p r : List Nat) (k : Nat), idxO (p ++ r) k = match idxO p k with | some i => some i | none => (idxO r k).map (· + p.length)
 | [], r, k => by cases h : idxO r k <;> simp [idxO, h]
 | a :: p, r, k => by
   rw [List.cons_append, idxO, idxO]
   by_cases e : a = k
   . rw [if_pos e, if_pos e]
   . rw [if_neg e, if_neg e, idxO_app p r k]
     cases h : idxO p k with
     | some i => rfl
     | none => cases h2 : idxO r k <;> simp [Nat.add_assoc]
theorem idxO_range : ∀ (c k : Nat), idxO (List.range c) k = if k < c then some k else none
 | 0, k => by simp [idxO]
 | c + 1, k => by
   rw [List.range_succ, idxO_app, idxO_range c k]
   by_cases h : k < c
   . rw [if_pos h, if_pos (by omega)]
   . rw [if_neg h]
     by_cases h2 : c = k
     . subst h2; simp [idxO]
     . rw [if_neg (by omega)]; simp [idxO, h2]
theorem permF_snoc {L c j : Nat} (hj : c <= j) (i : Nat) : permF L (List.range c ++ [j]) i = if i < L + c then some i else if i = L + j then some (L + c) else none := by
 unfold permF
 by_cases h : i < L
 . rw [if_pos h, if_pos (by omega)]
 . rw [if_neg h, idxO_app, idxO_range]
   by_cases h2 : i < L + c
   . rw [if_pos h2, if_pos (by omega)]; simp; omega
   . rw [if_neg h2, if_neg (by omega)]
     by_cases h3 : i = L + j
     . subst h3; rw [if_pos rfl]; simp [idxO]
     . rw [if_neg h3]
       have : ¬ j = i - L := by omega
       simp [idxO, this]
theorem range_get {S : Tbl} {c : Nat} (h : c <= S.length) (g : AObj -> AObj) : ((List.range c).map fun j => g (S[j]?.getD .gone)) = (S.take c).map g := by
 refine List.ext_getElem? fun i => ?_
 simp only [List.getElem?_map, List.getElem?_take]
 by_cases hi : i < c
 . simp [hi, List.getElem?_eq_getElem (show i < S.length by omega)]
 . simp [hi]
def itb (T : Tbl) (hs : List (List UInt8)) (A : List TTx) (l : Tbl) : Tbl := T ++ (tbI T.length hs A ++ l)
theorem itb_len (T : Tbl) (hs : List (List UInt8)) (A : List TTx) (l : Tbl) : (itb T hs A l).length = T.length + 5 + (ids1 A).length + l.length := by
 rw [itb, List.length_append, List.length_append, tbI_len]; omega
theorem itb_app (T : Tbl) (hs : List (List UInt8)) (A : List TTx) (l r : Tbl) : itb T hs A l ++ r = itb T hs A (l ++ r) := by
 simp [itb]
theorem itb_get {T U : Tbl} {hs : List (List UInt8)} {A : List TTx} {l : Tbl} (hU : U = itb T hs A l) :
 (∀ r, (U ++ r)[T.length]? = some (.map (ents (ids1 A) (fA T.length A)))) /\ (∀ r, (U ++ r)[T.length + 1]? = some (.cells 80 [.mp T.length])) /\
 (∀ r, (U ++ r)[T.length + 2]? = some (.cells 41 [.sl (T.length + 4) 0 hs.length])) /\ (∀ r, (U ++ r)[T.length + 3]? = some (.cells 82 [.fn 20 [.ptr (T.length + 2) 0]])) /\
 (∀ r, (U ++ r)[T.length + 4]? = some (.buf 33 32 (hs.flatMap H8))) /\
 U[T.length]? = some (.map (ents (ids1 A) (fA T.length A))) /\ U[T.length + 1]? = some (.cells 80 [.mp T.length]) /\
 U[T.length + 2]? = some (.cells 41 [.sl (T.length + 4) 0 hs.length]) /\ U[T.length + 3]? = some (.cells 82 [.fn 20 [.ptr (T.length + 2) 0]]) /\
 U[T.length + 4]? = some (.buf 33 32 (hs.flatMap H8)) := by
 have key : ∀ (r : Tbl) (i : Nat), i < 5 -> (U ++ r)[T.length + i]? = (tbI T.length hs A)[i]? := fun r i hi => by
  rw [hU, itb_app, itb, List.getElem?_append_right (by omega), show T.length + i - T.length = i by omega, List.getElem?_append_left (by rw [tbI_len]; omega)]
 have key0 : ∀ (i : Nat), i < 5 -> U[T.length + i]? = (tbI T.length hs A)[i]? := fun i hi => by
  have := key [] i hi; rwa [List.append_nil] at this
 exact ⟨fun r => key r 0 (by omega), fun r => key r 1 (by omega), fun r => key r 2 (by omega), fun r => key r 3 (by omega), fun r => key r 4 (by omega), key0 0 (by omega), key0 1 (by omega), key0 2 (by omega), key0 3 (by omega), key0 4 (by omega)⟩
theorem itb_wo {T U : Tbl} {hs : List (List UInt8)} {A : List TTx} {l : Tbl} {q : Nat -> Bool} (hT : T.map (AObj.wo q) = T) (hA : ∀ t ∈ A, t.Ok) (hl : l.map (AObj.wo q) = l) (hq : ∀ i, i < 5 + (ids1 A).length -> q (T.length + i) = false) (hU : U = itb T hs A l) : U.map (AObj.wo q) = U := by
 rw [hU, itb, List.map_append, List.map_append, hT, tbI_wo hA hq, hl]
theorem itb_wt {T U : Tbl} {hs : List (List UInt8)} {A : List TTx} {l : Tbl} {args : List AV} (wf : Wfs T args) (hA : ∀ t ∈ A, t.Ok) (hl : ∀ q, l.map (AObj.wo q) = l) (hU : U = itb T hs A l) :
 (∀ k, U.map (AObj.wo fun i => decide (U.length + k <= i)) = U) /\ (U.map (AObj.wo fun i => decide (U.length <= i)) = U) /\ (∀ k, U.map (AObj.wo fun i => i == U.length + k) = U) /\ (U.map (AObj.wo fun i => i == U.length) = U) := by
 have hUl : U.length = T.length + 5 + (ids1 A).length + l.length := by rw [hU, itb_len]
 have key : ∀ q : Nat -> Bool, (∀ i, i < U.length -> q i = false) -> U.map (AObj.wo q) = U := fun q hq => itb_wo (wf.wf q fun i hi => hq i (by omega)).1 hA (hl q) (fun i hi => hq _ (by omega)) hU
 exact ⟨fun k => key _ fun i hi => by simp; omega, key _ fun i hi => by simp; omega, fun k => key _ fun i hi => by simp; omega, key _ fun i hi => by simp; omega⟩
theorem AV.sub_wo {q : Nat -> Bool} {a : AV} (h : a.wo q = a) (sz l m : Nat) : (a.sub sz l m).wo q = a.sub sz l m := by
 cases a <;> first | exact h | skip
 . rename_i i off n
   rw [AV.wo] at h
   by_cases hq : q i = true
   . rw [if_pos hq] at h; cases h
   . rw [AV.sub, AV.wo, if_neg hq]
 . rw [AV.sub]; exact (Kept1.vs _ _).wo q
theorem nrules {L n : Nat} (h : L + 5 <= n) : (∀ k, decide (n + k <= L) = false) /\ (∀ k, decide (n + k <= L + 1) = false) /\ (∀ k, decide (n + k <= L + 2) = false) /\ (∀ k, decide (n + k <= L + 3) = false) /\ (∀ k, decide (n + k <= L + 4) = false) /\
 decide (n <= L) = false /\ decide (n <= L + 1) = false /\ decide (n <= L + 2) = false /\ decide (n <= L + 3) = false /\ decide (n <= L + 4) = false /\
 (∀ k, (n + k == L + 4) = false) /\ (n == L + 4) = false /\ (L + 1 == L + 4) = false /\ (L + 2 == L + 4) = false /\ (L + 3 == L + 4) = false /\ (L == L + 4) = false := by
 refine ⟨fun k => ?_, fun k => ?_, fun k => ?_, fun k => ?_, fun k => ?_, ?_, ?_, ?_, ?_, ?_, fun k => ?_, ?_, ?_, ?_, ?_, ?_⟩ <;> simp <;> omega
theorem ids1_old {A : List TTx} {t : TTx} (h : t.id ∈ ids1 A) : ids1 (A ++ [t]) = ids1 A := by rw [ids1_snoc, if_pos h]
theorem ids1_new {A : List TTx} {t : TTx} (h : t.id ∉ ids1 A) : ids1 (A ++ [t]) = ids1 A ++ [t.id] := by rw [ids1_snoc, if_neg h]
theorem fA_new {L : Nat} {A : List TTx} {t : TTx} (h : t.id ∉ ids1 A) (i : Nat) (hi : i < (ids1 A).length + 1) : fA L (A ++ [t]) i = if i = (ids1 A).length then .sl (L + 5 + (ids1 A).length) 0 1 else fA L A i := by
 rw [fA, ids1_new h]
 by_cases e : i = (ids1 A).length
 . rw [if_pos e, e, List.getElem?_append_right (Nat.le_refl _), Nat.sub_self, List.getElem?_cons_zero, Option.getD_some, grp_snoc, if_pos rfl, grp_none h]; rfl
 . have hi2 : i < (ids1 A).length := by omega
   have h2 : (ids1 A)[i] ≠ t.id := fun e => h (e ▸ List.getElem_mem hi2)
   rw [if_neg e, fA, List.getElem?_append_left hi2, List.getElem?_eq_getElem hi2, Option.getD_some, grp_snoc, if_neg fun e => h2 e.symm]
theorem bufs_new {A : List TTx} {t : TTx} (h : t.id ∉ ids1 A) : bufs (A ++ [t]) = bufs A ++ [.buf 61 1 [t.oa]] := by
 rw [bufs, ids1_new h, List.map_append, bufs]
 refine congr (congrArg _ (List.map_congr_left fun id hid => ?_)) ?_
 . rw [grp_snoc, if_neg fun e => h (by rw [e]; exact hid)]
 . rw [List.map_cons, List.map_nil, grp_snoc, if_pos rfl, grp_none h]; rfl
theorem fA_old {L : Nat} {A : List TTx} {t : TTx} {ix : Nat} (h : (ids1 A)[ix]? = some t.id) (i : Nat) (hi : i < (ids1 A).length) : fA L (A ++ [t]) i = if i = ix then .sl (L + 5 + ix) 0 ((grp t.id A).length + 1) else fA L A i := by
 rw [fA, ids1_old (List.mem_of_getElem? h)]
 by_cases e : i = ix
 . rw [if_pos e, e, h, Option.getD_some, grp_snoc, if_pos rfl, List.length_append]; rfl
 . have h2 : (ids1 A)[i] ≠ t.id := fun e2 => e ((List.getElem?_inj hi (ids1_nodup A)).1 (by rw [List.getElem?_eq_getElem hi, e2, h]))
   rw [if_neg e, fA, List.getElem?_eq_getElem hi, Option.getD_some, grp_snoc, if_neg fun e => h2 e.symm]
theorem bufs_old {A : List TTx} {t : TTx} {ix : Nat} (h : (ids1 A)[ix]? = some t.id) : bufs (A ++ [t]) = (bufs A).set ix (.buf 61 1 ((grp t.id A).flatMap ocs ++ [t.oa])) := by
 have hix := (List.getElem?_eq_some_iff.1 h).1
 rw [bufs, ids1_old (List.mem_of_getElem? h), bufs]
 refine List.ext_getElem? fun i => ?_
 rw [List.getElem?_map, List.getElem?_set]
 by_cases e : ix = i
 . subst e
   rw [if_pos rfl, if_pos (by simpa using hix), h, Option.map_some, grp_snoc, if_pos rfl, List.flatMap_append]; rfl
 . rw [if_neg e, List.getElem?_map]
   cases hi : (ids1 A)[i]? with
   | none => rfl
   | some x =>
     rw [Option.map_some, Option.map_some, grp_snoc, if_neg]
     intro e2
     have hil := (List.getElem?_eq_some_iff.1 hi).1
     exact e ((List.getElem?_inj hil (ids1_nodup A)).1 (by rw [hi, h, e2])).symm
theorem tab_new {T : Tbl} {W : List (List UInt8)} {X : List TTx} {t : TTx} (hX : ∀ t ∈ X, t.Ok) (hto : t.Ok) (hn : t.id ∉ ids1 X) (o1 o2 o3 : AObj) :
 ∃ S : Tbl, (itb T W X []).set T.length (.map (mset (mset (ents (ids1 X) (fA T.length X)) (hv t.id) (.p (.slice none 0 0))) (hv t.id) (.sl ((itb T W X []).length + 3) 0 1))) ++ [o1, o2, o3, .buf 61 1 [t.oa]] = T ++ S /\
  (∀ j ∈ List.range (5 + (ids1 X).length) ++ [(ids1 X).length + 8], j < S.length) /\
  (T ++ (List.range (5 + (ids1 X).length) ++ [(ids1 X).length + 8]).map fun j => (S[j]?.getD .gone).ren (permF T.length (List.range (5 + (ids1 X).length) ++ [(ids1 X).length + 8]))) = itb T W (X ++ [t]) [] := by
 obtain ⟨m, hm⟩ : ∃ m, m = (ids1 X).length := ⟨_, rfl⟩
 have hlen : (itb T W X []).length = T.length + 5 + m := by rw [itb_len, hm]; rfl
 have he : mset (mset (ents (ids1 X) (fA T.length X)) (hv t.id) (.p (.slice none 0 0))) (hv t.id) (.sl (T.length + 5 + m + 3) 0 1) = ents (ids1 X ++ [t.id]) fun i => if i = m then .sl (T.length + 5 + m + 3) 0 1 else fA T.length X i := by
  rw [ents_new _ hn, ents_set (ix := m) _ (by rw [<- ids1_new hn]; exact ids1_nodup _) (by rw [hm, List.getElem?_append_right (Nat.le_refl _), Nat.sub_self]; rfl)]
  refine ents_congr fun i hi => ?_
  by_cases e : i = m
  . rw [if_pos e, if_pos e]
  . rw [if_neg e, if_neg e, if_neg (by omega)]
 rw [hlen, he, <- hm]
 obtain ⟨es, hes⟩ : ∃ es, es = ents (ids1 X ++ [t.id]) fun i => if i = m then AV.sl (T.length + 5 + m + 3) 0 1 else fA T.length X i := ⟨_, rfl⟩
 rw [<- hes]
 have hbl : (bufs X).length = m := by rw [bufs, List.length_map, hm]
 refine ⟨([.map es, .cells 80 [.mp T.length], .cells 41 [.sl (T.length + 4) 0 W.length], .cells 82 [.fn 20 [.ptr (T.length + 2) 0]], .buf 33 32 (W.flatMap H8)] ++ bufs X) ++ [o1, o2, o3, .buf 61 1 [t.oa]], ?_, ?_, ?_⟩
 . rw [itb, List.append_nil, List.set_append_right _ _ (Nat.le_refl _), Nat.sub_self, List.append_assoc]; rfl
 . intro j hj
   simp only [List.mem_append, List.mem_range, List.mem_singleton] at hj
   simp only [List.length_append, List.length_cons, List.length_nil, hbl]
   omega
 . obtain ⟨f, hf⟩ : ∃ f, f = permF T.length (List.range (5 + m) ++ [m + 8]) := ⟨_, rfl⟩
   have hfv : ∀ i, f i = if i < T.length + (5 + m) then some i else if i = T.length + (m + 8) then some (T.length + (5 + m)) else none := fun i => by rw [hf]; exact permF_snoc (by omega) i
   rw [<- hf, List.map_append, range_get (by simp [hbl]; omega), List.take_append_of_le_length (by simp [hbl]; omega), List.take_of_length_le (by simp [hbl]; omega)]
   have e1 : ∀ k, k < 5 -> f (T.length + k) = some (T.length + k) := fun k hk => by rw [hfv, if_pos (by omega)]
   have e2 : (bufs X).map (AObj.ren f) = bufs X := by
    rw [bufs, List.map_map]
    refine List.map_congr_left fun id _ => ?_
    show AObj.ren f (.buf _ _ _) = _
    rw [AObj.ren, ren_all fun q => ocs_wo q (l := grp id X) fun t ht => hX t (List.mem_filter.1 ht).1]
   have e3 : (W.flatMap H8).map (AV.ren f) = W.flatMap H8 := ren_all fun q => wo8f q W
   have e4 : es.map (fun e => (e.1, e.2.ren f)) = ents (ids1 (X ++ [t])) (fA T.length (X ++ [t])) := by
    rw [hes, ents_map, ids1_new hn]
    refine ents_congr fun i hi => ?_
    rw [List.length_append, List.length_singleton] at hi
    rw [fA_new hn i hi]
    by_cases e : i = m
    . rw [if_pos e, if_pos (by omega), AV.ren, hfv, if_neg (by omega), if_pos (by omega), <- hm]
      show AV.sl _ _ _ = _
      rw [Nat.add_assoc]
    . rw [if_neg e, if_neg (by omega), fA, AV.ren, hfv, if_pos (by omega)]
   have e5 : (([.map es, .cells 80 [.mp T.length], .cells 41 [.sl (T.length + 4) 0 W.length], .cells 82 [.fn 20 [.ptr (T.length + 2) 0]], .buf 33 32 (W.flatMap H8)] ++ bufs X) ++ [o1, o2, o3, AObj.buf 61 1 [t.oa]])[m + 8]? = some (.buf 61 1 [t.oa]) := by
    rw [List.getElem?_append_right (by simp [hbl])]
    simp only [List.length_append, List.length_cons, List.length_nil, hbl]
    rw [show m + 8 - (0 + 1 + 1 + 1 + 1 + 1 + m) = 3 by omega]; rfl
   rw [List.map_append, e2]
   simp only [List.map_cons, List.map_nil, e5, Option.getD_some]
   rw [itb, tbI, List.append_nil, bufs_new hn]
   simp only [AObj.ren, e4, e3, List.map_cons, List.map_nil, AV.ren, e1 4 (by omega), AV.renL, e1 2 (by omega), ren_all1 fun q => hto.o.k.wo q]
   rw [show f T.length = some T.length from e1 0 (by omega)]
   simp
theorem range_nodup {c j : Nat} (h : c <= j) : (List.range c ++ [j]).Nodup := by
 rw [List.nodup_append]
 exact ⟨List.nodup_range, by simp, fun a ha b hb => by rw [List.mem_range] at ha; rw [List.mem_singleton] at hb; omega⟩
theorem MF_map {es : List (Value × AV)} {ms : Array MapEntry} {c : Nat} (g : AV -> AV) (h : MF es ms c) : MF (es.map fun e => (e.1, g e.2)) ms c := by
 refine ⟨?_, h.2⟩
 rw [List.map_map, <- h.1]; rfl
theorem MB_map {es : List (Value × AV)} {ms : Array MapEntry} {k : Value} {b : Nat} (g : AV -> AV) (h : MB es ms k b) : MB (es.map fun e => (e.1, g e.2)) ms k b := by
 obtain ⟨j, e, a, h1, h2, h3⟩ := h
 exact ⟨j, e, g a, h1, h2, by rw [List.getElem?_map, h3]; rfl⟩
theorem itb_woc {T : Tbl} {W : List (List UInt8)} {X : List TTx} {ix : Nat} (hT : T.map (AObj.wo fun i => i == T.length + 5 + ix) = T) (hX : ∀ t ∈ X, t.Ok) :
 (itb T W X []).map (AObj.wo fun i => i == T.length + 5 + ix) = (itb T W X []).set T.length (.map ((ents (ids1 X) (fA T.length X)).map fun e => (e.1, e.2.wo fun i => i == T.length + 5 + ix))) := by
 rw [itb, List.append_nil, List.set_append_right _ _ (Nat.le_refl _), Nat.sub_self, List.map_append, hT, tbI, List.map_append, bufs_wo _ hX]
 have e1 : (T.length == T.length + 5 + ix) = false := by simp; omega
 have e2 : (T.length + 4 == T.length + 5 + ix) = false := by simp; omega
 have e3 : (T.length + 2 == T.length + 5 + ix) = false := by simp; omega
 simp only [List.map_cons, List.map_nil, AObj.wo, wo8f, AV.wo, AV.woL_eq, e1, e2, e3]
 rfl
theorem itb_ci {T : Tbl} {W : List (List UInt8)} {X : List TTx} {tx : List UInt8} {ix : Nat} (hix : (ids1 X)[ix]? = some tx) : (itb T W X [])[T.length + 5 + ix]? = some (.buf 61 1 ((grp tx X).flatMap ocs)) := by
 rw [itb, List.getElem?_append_right (by omega), show T.length + 5 + ix - T.length = 5 + ix by omega, List.append_nil, tbI, List.getElem?_append_right (by simp), bufs]
 simp [hix]
theorem tab_old {T : Tbl} {W : List (List UInt8)} {X : List TTx} {t : TTx} {ix : Nat} (hix : (ids1 X)[ix]? = some t.id) :
 ((itb T W X []).set T.length (.map (mset ((mset (ents (ids1 X) (fA T.length X)) (hv t.id) (.sl (T.length + 5 + ix) 0 (grp t.id X).length)).map fun e => (e.1, e.2.wo fun i => i == T.length + 5 + ix)) (hv t.id) (.sl (T.length + 5 + ix) 0 ((grp t.id X).length + 1))))).set (T.length + 5 + ix) (.buf 61 1 ((grp t.id X).flatMap ocs ++ [t.oa])) = itb T W (X ++ [t]) [] := by
 have hn := ids1_nodup X
 have e : mset ((mset (ents (ids1 X) (fA T.length X)) (hv t.id) (.sl (T.length + 5 + ix) 0 (grp t.id X).length)).map fun e => (e.1, e.2.wo fun i => i == T.length + 5 + ix)) (hv t.id) (.sl (T.length + 5 + ix) 0 ((grp t.id X).length + 1)) = ents (ids1 (X ++ [t])) (fA T.length (X ++ [t])) := by
  rw [ents_set _ hn hix, ents_map, ents_set _ hn hix, ids1_old (List.mem_of_getElem? hix)]
  refine ents_congr fun i hi => ?_
  rw [fA_old hix i hi]
  by_cases e : i = ix
  . rw [if_pos e, if_pos e]
  . rw [if_neg e, if_neg e, if_neg e, fA, AV.wo, if_neg (by simp; omega)]
 rw [e, itb, List.append_nil, List.set_append_right _ _ (Nat.le_refl _), Nat.sub_self, List.set_append_right _ _ (by omega), show T.length + 5 + ix - T.length = 5 + ix by omega, itb, List.append_nil, tbI, tbI, bufs_old hix, List.set_append_left _ _ (by simp), List.set_append_right _ _ (by simp)]
 simp
def touchZ (l : List Blk) (z : Int) : List (List UInt8) := if 0 <= z then touchH l z.toNat else []
theorem touchZ_32 (l : List Blk) (z : Int) : H32 (touchZ l z) := by
 unfold touchZ
 split
 . exact touchH_32 l _
 . exact fun _ h => nomatch h
theorem inH_len (ahead : List TTx) (x : TIn) : (inH ahead x).length <= 1 := by unfold inH; split <;> simp
theorem insH_len (ahead : List TTx) : ∀ l : List TIn, (l.flatMap (inH ahead)).length <= l.length
 | [] => by simp
 | x :: r => by
   have h1 := inH_len ahead x
   have h2 := insH_len ahead r
   rw [List.flatMap_cons, List.length_append, List.length_cons]; omega
theorem txH_len (ahead : List TTx) (t : TTx) : (txH ahead t).length <= t.ins.length + t.outs.length := by
 have := insH_len ahead t.ins
 rw [txH, List.length_append, List.length_map]; omega
theorem blkH_len : ∀ (l ahead : List TTx), (∀ t ∈ l, t.ins.length <= 10000 /\ t.outs.length <= 10000) -> (blkH ahead l).length <= l.length * 20000
 | [], _, _ => by simp [blkH]
 | t :: r, ahead, h => by
   have h1 := txH_len ahead t
   have h2 := blkH_len r (ahead ++ [t]) fun u hu => h u (by simp [hu])
   have h3 := h t (by simp)
   rw [blkH, List.length_append, List.length_cons, Nat.succ_mul]; omega
theorem flatB_len : ∀ l : List Blk, (∀ b ∈ l, b.Ok) -> (flatB l).length <= l.length * 1000
 | [], _ => by simp [flatB]
 | b :: r, h => by
   have h1 := flatB_len r fun u hu => h u (by simp [hu])
   have h2 := (h b (by simp)).l
   have e : flatB (b :: r) = b.txs ++ flatB r := by simp [flatB]
   rw [e, List.length_append, List.length_cons, Nat.succ_mul]; omega
theorem touchH_le {l : List Blk} (hok : ∀ b ∈ l, b.Ok) (h : Nat) : (touchH l h).length <= 20000000 := by
 unfold touchH
 split
 . rename_i b hb
   have ho := hok b (List.mem_of_getElem? hb)
   have := blkH_len b.txs (flatB (l.take h)) ho.il
   have := ho.l
   omega
 . simp
theorem touchZ_le {l : List Blk} (hok : ∀ b ∈ l, b.Ok) (z : Int) : (touchZ l z).length <= 20000000 := by
 unfold touchZ
 split
 . exact touchH_le hok _
 . simp
theorem TTx.wofO {l : List TTx} (h : ∀ t ∈ l, t.Ok) (q : Nat -> Bool) : (l.flatMap TTx.cs).map (AV.wo q) = l.flatMap TTx.cs := by
 induction l with
 | nil => rfl
 | cons t r ih => rw [List.flatMap_cons, List.map_append, (TTx.rules (h t (by simp))).2.2.2.2.2.2.2.1, ih fun y hy => h y (by simp [hy])]
theorem flatB_ok {l : List Blk} (hok : ∀ b ∈ l, b.Ok) : ∀ t ∈ flatB l, t.Ok := fun t ht => by
 obtain ⟨b, hb, ht⟩ := List.mem_flatMap.1 ht
 exact (hok b hb).ok t ht
def outAt (l : List Blk) (z : Int) (h : Nat) : List (List UInt8) := if z < (h : Int) then touchZ l z else []
theorem outAt_end {l : List Blk} {z : Int} {h : Nat} (hh : h = l.length ∨ z < (h : Int)) : outAt l z h = touchZ l z := by
 unfold outAt
 split
 . rfl
 . rename_i hz
   rcases hh with hh | hh
   . unfold touchZ
     rw [if_pos (by omega), touchH]
     rw [List.getElem?_eq_none (by omega)]
   . exact absurd hh hz
theorem outO_ok {tx : List UInt8} {n : UInt32} {o : TOut} : ∀ {X : List TTx}, (∀ t ∈ X, t.Ok) -> outO tx n X = some o -> o.Ok
 | [], _, h => nomatch h
 | t :: r, hX, h => by
   rw [outO] at h
   split at h
   . exact (hX t (by simp)).oo o (List.mem_of_getElem? h)
   . exact outO_ok (fun u hu => hX u (by simp [hu])) h
theorem ritems_ok {T : Tbl} {a : AV} {l : List Blk} (hb : Es T 69 Blk.cs a l) (hok : ∀ b ∈ l, b.Ok) (hl : l.length <= 1000) {z : Int} (hz : -9223372036854775808 <= z /\ z <= 9223372036854775807) :
 CallA prog G 12 [a, .p (.int .i64 z)] T fun v T' es => v = .vs ((uniq (touchZ l z)).flatMap H8) (uniq (touchZ l z)).length /\ T' = T /\ es = [] := by
 refine CallA.wfs fun wf => ?_
 have wt := wf.t
 have wa := wf.arg a (by simp)
 have hsr := Sl.rules hb.sl (by decide)
 have hlsl := Sl.loads hb.sl (P := prog) (t := 50) (by (simp -dsimp +decide only []))
 have hw8 := fun (hs : List (List UInt8)) q => wo8f q hs
 refine CallA.eV 101 func12 ntmps12 results12 ?_
 simp -dsimp +decide only [vp0, ↓reduceIte, Nat.reduceSub, Nat.reduceAdd]
 refine SemA.adopt 5 63 4 (by decide) rfl ?_
 refine SemA.adopt 6 33 32 (by decide) rfl ?_
 simp -dsimp +decide only [vp0]
 refine SemA.loopK (T.length + 2) (fun s : Nat × Nat × Nat => [(0, a), (1, .p (.int .i64 z)), (5, .sl T.length 0 s.2.1), (6, .sl (T.length + 1) 0 s.2.2), (7, wint (s.1 : Int))]) (fun s => T ++ [.buf 63 4 ((flatB (l.take s.1)).flatMap TTx.cs), .buf 33 32 ((outAt l z s.1).flatMap H8)]) (fun s => s.1 <= l.length /\ ((s.1 : Int) <= z + 1 ∨ s.1 = 0) /\ s.2.1 = (flatB (l.take s.1)).length /\ s.2.2 = (outAt l z s.1).length) (fun s => l.length - s.1) (0, 0, 0) [] 0
  (fun _ : List TTx => [(6, .sl (T.length + 1) 0 (touchZ l z).length)]) (fun A => T ++ [.buf 63 4 (A.flatMap TTx.cs), .buf 33 32 ((touchZ l z).flatMap H8)]) (fun _ => True) (by omega) ⟨Nat.zero_le _, .inr rfl, by simp [flatB], ?_⟩ (by (try (simp -dsimp +decide (disch := omega) only [vq, Nat.reduceAdd, ci])); first | done | (and_intros <;> first | with_reducible rfl | rfl) | rfl) ?_ (by simp) ?_ ?_
 . unfold outAt
   split
   . unfold touchZ; rw [if_neg (by rename_i h; simp at h; omega)]; rfl
   . rfl
 . have e : outAt l z 0 = [] := by
    unfold outAt
    split
    . unfold touchZ; rw [if_neg (by rename_i h; simp at h; omega)]
    . rfl
   rw [e]; simp [flatB]
 . rintro ⟨h, nA, nO⟩ g ⟨hh, hhz, hnA, hnO⟩
   dsimp only at hh hhz hnA hnO
   have hAl := flatB_len (l.take h) fun b hb => hok b (List.mem_of_mem_take hb)
   rw [List.length_take, Nat.min_eq_left hh] at hAl
   have hAok := flatB_ok fun b hb => hok b (List.mem_of_mem_take (i := h) hb)
   have hwA := TTx.wofO hAok
   refine SemA.o ?_
   by_cases hc : h < l.length /\ (h : Int) <= z
   . have c1 : ((h : Int) < (l.length : Int)) = True := eq_true (by omega)
     have c2 : ((h : Int) <= z) = True := eq_true hc.2
     obtain ⟨b, hbx⟩ : ∃ b, l[h]? = some b := ⟨l[h]'hc.1, by simp [hc.1]⟩
     have hbo := hok b (List.mem_of_getElem? hbx)
     have hbl := hbo.l
     have hfd := fun j k (K : AV -> Prop) => Sl.fld (K := K) hb.sl (show 0 < l.length by omega) j k
     have hta : (l.flatMap Blk.cs)[h * 69 + 68]? = some b.ta := by rw [flat_cell hb.wd hbx (by decide)]; exact Blk.cs_tah hbo.h
     have hln := fun (Y : Tbl) s2 K => ((hbo.t.es Y).sl).ln (K := K) s2
     have hO0 : outAt l z h = [] := by unfold outAt; rw [if_neg (by omega)]
     have hnO0 : nO = 0 := by rw [hnO, hO0]; rfl
     obtain ⟨A, hA⟩ : ∃ A, A = flatB (l.take h) := ⟨_, rfl⟩
     rw [<- hA] at hnA hAl hAok hwA ⊢
     have hstep : flatB (l.take (h + 1)) = A ++ b.txs := by
      rw [List.take_add_one, hbx, hA, flatB, flatB, List.flatMap_append]; simp
     have hOut : outAt l z (h + 1) = if (h : Int) = z then blkH A b.txs else [] := by
      unfold outAt
      by_cases he : (h : Int) = z
      . rw [if_pos (by omega), if_pos he, touchZ, if_pos (by omega), touchH, <- he, Int.toNat_natCast, hbx, <- hA]
      . rw [if_neg (by omega), if_neg he]
     rw [hnA, hnO0, hO0]
     simp -dsimp +decide (disch := omega) only [vq, ty, ↓reduceIte, Nat.reduceAdd, hsr, c1, c2]
     refine SemA.loopK (T.length + 2) (fun k : Nat => [(0, a), (1, .p (.int .i64 z)), (5, .sl T.length 0 (A ++ b.txs.take k).length), (6, .sl (T.length + 1) 0 (if (h : Int) = z then blkH A (b.txs.take k) else []).length), (7, wint (h : Int)), (8, wint (k : Int))]) (fun k => T ++ [.buf 63 4 ((A ++ b.txs.take k).flatMap TTx.cs), .buf 33 32 ((if (h : Int) = z then blkH A (b.txs.take k) else []).flatMap H8)]) (fun k => k <= b.txs.length) (fun k => b.txs.length - k) 0 [] 2 (fun _ : Unit => [(0, a), (1, .p (.int .i64 z)), (5, .sl T.length 0 (A ++ b.txs).length), (6, .sl (T.length + 1) 0 (if (h : Int) = z then blkH A b.txs else []).length), (7, wint (h : Int))]) (fun _ => T ++ [.buf 63 4 ((A ++ b.txs).flatMap TTx.cs), .buf 33 32 ((if (h : Int) = z then blkH A b.txs else []).flatMap H8)]) (fun _ => True) (by omega) (by omega) ?_ ?_ (by simp) ?_ ?_
     . have : (if (h : Int) = z then blkH A (b.txs.take 0) else []) = [] := by split <;> simp [blkH]
       rw [this, List.take_zero, List.append_nil]
       exact (by (try (simp -dsimp +decide (disch := omega) only [vq, Nat.reduceAdd, ci])); first | done | (and_intros <;> first | with_reducible rfl | rfl) | rfl)
     . have : (if (h : Int) = z then blkH A (b.txs.take 0) else []) = [] := by split <;> simp [blkH]
       rw [this]; simp
     . rintro k g hk
       have hktl : (b.txs.take k).length = k := by rw [List.length_take, Nat.min_eq_left hk]
       have hkok : ∀ t ∈ A ++ b.txs.take k, t.Ok := fun t ht => by
        rcases List.mem_append.1 ht with ht | ht
        . exact hAok t ht
        . exact hbo.ok t (List.mem_of_mem_take ht)
       have hwk := TTx.wofO hkok
       have hkl : (A ++ b.txs.take k).length = A.length + k := by rw [List.length_append, hktl]
       refine SemA.o ?_
       simp -dsimp +decide (disch := omega) only [vq, ty, ↓reduceIte, Nat.reduceAdd, hsr, hlsl, hfd, hta, hln]
       refine ⟨⟨by omega, by omega⟩, CondP.dec (fun hc2 => ?_) (fun hc2 => ?_)⟩
       . obtain ⟨t, ht⟩ : ∃ t, b.txs[k]? = some t := ⟨b.txs[k]'(by omega), by simp⟩
         have hto := hbo.ok t (List.mem_of_getElem? ht)
         have htr := TTx.rules hto
         have hil := hbo.il t (List.mem_of_getElem? ht)
         have hldt := fun (Y : Tbl) (K : AV -> Prop) => (show loadA prog 63 (b.ta.pl (k * 4)) Y K = K (.ag t.cs) by
          rw [((hbo.t.es Y).ld (P := prog) (t := 63) (by (simp -dsimp +decide only [])) (by (simp -dsimp +decide only [])) (by decide)).2 k K (by omega), ht]
          rfl)
         have hixt := fun (Y : Tbl) (ik : IntKind) (z : Int) (K : AV -> Prop) => (hbo.t.es Y).sl.ix (K := K) (by decide) ik z
         have wtz : wrA [oW, AV.p (Value.slice none 0 0), AV.p (Value.slice none 0 0), oW] 0 t.cs = t.cs := rfl
         obtain ⟨Q, hQ⟩ : ∃ Q, Q = if (h : Int) = z then blkH A (b.txs.take k) else [] := ⟨_, rfl⟩
         obtain ⟨X, hX⟩ : ∃ X, X = A ++ b.txs.take k := ⟨_, rfl⟩
         have hil2 := hil.1
         have hol2 := hil.2
         have hQl : Q.length <= 20000000 := by
          rw [hQ]
          split
          . have := blkH_len (b.txs.take k) A fun u hu => hbo.il u (List.mem_of_mem_take hu)
            rw [hktl] at this; omega
          . simp
         have hQ32 : H32 Q := by
          rw [hQ]
          split
          . exact blkH_32 _ _
          . exact fun _ h => nomatch h
         have hX2 := hkl
         rw [<- hX] at hkok hwk hkl
         rw [<- hQ, <- hX]
         have hXl : X.length <= 1000000 := by omega
         simp -dsimp +decide (disch := omega) only [vp0, ty, ↓reduceIte, Nat.reduceAdd, Nat.reduceLT, hsr, hlsl, hfd, hta, hldt, hixt, wtz, htr]
         refine ⟨⟨by omega, by omega⟩, ⟨by omega, by omega⟩, ?_⟩
         have hlni := fun (Y : Tbl) s2 K => ((hto.i.es Y).sl).ln (K := K) s2
         have hlno := fun (Y : Tbl) s2 K => ((hto.o.es Y).sl).ln (K := K) s2
         have g3 := fun (u : List (List UInt8)) l => gn2 T (.buf 63 4 (X.flatMap TTx.cs)) (.buf 33 32 (u.flatMap H8)) (.cells 63 t.cs) l
         obtain ⟨W1, hW1⟩ : ∃ W1 : Nat -> List (List UInt8), ∀ i, W1 i = if (h : Int) = z then Q ++ (t.ins.take i).flatMap (inH X) else [] := ⟨_, fun _ => rfl⟩
         have hW1l : ∀ i, (W1 i).length <= 30000000 := fun i => by
          rw [hW1]
          split
          . have := insH_len X (t.ins.take i)
            rw [List.length_take] at this
            rw [List.length_append]; omega
          . simp
         have hW132 : ∀ i, H32 (W1 i) := fun i => by
          rw [hW1]
          split
          . intro x hx
            rcases List.mem_append.1 hx with hx | hx
            . exact hQ32 x hx
            . obtain ⟨y, _, hy⟩ := List.mem_flatMap.1 hx
              unfold inH at hy
              split at hy
              . rw [List.mem_singleton.1 hy]; exact sha_len _
              . cases hy
          . exact fun _ h => nomatch h
         have hW10 : W1 0 = Q := by
          rw [hW1]
          split
          . simp
          . rename_i hn; rw [hQ, if_neg hn]
         refine SemA.loopK (T.length + 3) (fun i : Nat => [(0, a), (1, .p (.int .i64 z)), (5, .sl T.length 0 X.length), (6, .sl (T.length + 1) 0 (W1 i).length), (7, wint (h : Int)), (8, wint (k : Int)), (9, .ptr (T.length + 2) 0), (10, wint (i : Int))]) (fun i => T ++ [.buf 63 4 (X.flatMap TTx.cs), .buf 33 32 ((W1 i).flatMap H8), .cells 63 t.cs]) (fun i => i <= t.ins.length) (fun i => t.ins.length - i) 0 [] 4 (fun _ : Unit => [(0, a), (1, .p (.int .i64 z)), (5, .sl T.length 0 X.length), (6, .sl (T.length + 1) 0 (W1 t.ins.length).length), (7, wint (h : Int)), (8, wint (k : Int)), (9, .ptr (T.length + 2) 0)]) (fun _ => T ++ [.buf 63 4 (X.flatMap TTx.cs), .buf 33 32 ((W1 t.ins.length).flatMap H8), .cells 63 t.cs]) (fun _ => True) (by omega) (by omega) ?_ ?_ (by simp) ?_ ?_
         . rw [hW10]; exact (by (try (simp -dsimp +decide (disch := omega) only [vq, Nat.reduceAdd, ci])); first | done | (and_intros <;> first | with_reducible rfl | rfl) | rfl)
         . rw [hW10]
         . rintro i g hi
           refine SemA.o ?_
           by_cases hc3 : i < t.ins.length
           . by_cases he : (h : Int) = z
             . have i1 : ((i : Int) < (t.ins.length : Int)) = True := eq_true (by omega)
               have i2 : ((h : Int) = z) = True := eq_true he
               obtain ⟨x, hx⟩ : ∃ x, t.ins[i]? = some x := ⟨t.ins[i]'(by omega), by simp⟩
               have hxo := hto.ii x (List.mem_of_getElem? hx)
               have hlp := fun (Y : Tbl) (K : AV -> Prop) => (show loadA prog 65 (t.ia.pl (i * 36)) Y K = K (.ag (plc x.tx x.n)) by
                have hts : tsz prog 65 = 33 := by (simp -dsimp +decide only [])
                have h3 := (hto.i.es Y).sl.lds (K := K) (P := prog) (t := 65) (by (simp -dsimp +decide only [])) (i * 36) (by rw [hts]; decide) (by rw [hts]; omega)
                rw [h3, hts]
                have h4 := flat_at (hto.i.es Y).wd hx
                have h5 : List.take 33 (List.drop (i * 36) (t.ins.flatMap TIn.cs)) = List.take 33 x.cs := by rw [<- h4, List.take_take]; rfl
                rw [h5]
                congr 2
                rw [TIn.cs, List.take_append, List.length_map, hxo.t, List.take_of_length_le (by rw [List.length_map, hxo.t]; decide)]
                rfl)
               have hixi := fun (Y : Tbl) (ik : IntKind) (z : Int) (K : AV -> Prop) => (hto.i.es Y).sl.ix (K := K) (by decide) ik z
               have hfi := fun j k (K : AV -> Prop) => Sl.fld (K := K) (hto.i.es T).sl (show 0 < t.ins.length by omega) j k
               have hEX : ∀ l, Es (T ++ .buf 63 4 (X.flatMap TTx.cs) :: l) 4 TTx.cs (.sl T.length 0 X.length) X := fun l => Es.obj (gn0 T _ l) rfl fun _ _ => rfl
               have hstp : W1 (i + 1) = W1 i ++ inH X x := by
                rw [hW1, hW1, if_pos he, if_pos he, List.take_add_one, hx, List.flatMap_append, List.append_assoc]; simp
               simp -dsimp +decide (disch := omega) only [vq, ty, en, ↓reduceIte, Nat.reduceAdd, htr, g3, hlni, i1, i2, hixi, hfi, hlp]
               refine ⟨by omega, (output29_ok (hEX _) hkok hXl hxo.t).det' ?_⟩
               cases ho : outO x.tx x.n X with
               | none =>
                 have hin : inH X x = [] := by rw [inH, ho]
                 rw [hin, List.append_nil] at hstp
                 have w0 : wrA [AV.p (.int .u64 0), AV.p (.slice none 0 0)] 0 [AV.p (.int .u64 0), AV.p (.slice none 0 0)] = [AV.p (.int .u64 0), AV.p (.slice none 0 0)] := rfl
                 simp only [outV]
                 simp -dsimp +decide (disch := omega) only [vt2, vze, vq, ty, ↓reduceIte, Nat.reduceAdd, vi, vt, htr, w0, wt, wa, hwk, hw8]
                 exact ⟨i + 1, ⟨by omega, by omega⟩, by rw [hstp]; exact (by (try (simp -dsimp +decide (disch := omega) only [vc])); first | done | (and_intros <;> first | with_reducible rfl | rfl) | rfl)⟩
               | some o =>
                 have hoo : o.Ok := outO_ok hkok ho
                 have hor := TOut.rules hoo
                 have hin : inH X x = [outH o] := by rw [inH, ho]; rfl
                 have hsl := sha_len o.sc.b
                 have hscl := hoo.l
                 have hfl := flat_len (h8 (hW132 i))
                 have hW := hW1l i
                 have hwr := wr32 _ hsl
                 have hon := ones8 (sha o.sc.b)
                 simp only [outV]
                 simp -dsimp +decide (disch := omega) only [vp0, ty, en, ↓reduceIte, Nat.reduceAdd, Nat.reduceLT, hor]
                 refine (rsumS (hoo.s.bs _) (by omega)).det' ?_
                 simp -dsimp +decide (disch := omega) only [vt2, vze, vq, ty, ↓reduceIte, Nat.reduceAdd, Nat.reduceMul, vi, vt, hsr, htr, hor, wt, wa, hwk, hw8, tk32 _ hsl, hfl, z32_eq, rep1, z32_len, hwr, hon, hsl]
                 refine ⟨⟨by omega, by omega⟩, i + 1, ⟨by omega, by omega⟩, ?_⟩
                 rw [hstp, hin, List.flatMap_append, List.length_append]
                 exact ⟨⟨rfl, rfl⟩, by simp [outH, H8]⟩
             . have i1 : ((i : Int) < (t.ins.length : Int)) = True := eq_true (by omega)
               have i2 : ((h : Int) = z) = False := eq_false he
               have hwi : W1 i = W1 t.ins.length := by rw [hW1, hW1, if_neg he, if_neg he]
               rw [hwi]
               simp -dsimp +decide (disch := omega) only [vt2, vze, vq, ty, ↓reduceIte, Nat.reduceAdd, vt, htr, g3, hlni, i1, i2, wt, wa, hwk, hw8]
               first | done | exact ⟨(), trivial⟩
           . have e : i = t.ins.length := by omega
             subst e
             have i1 : ((t.ins.length : Int) < (t.ins.length : Int)) = False := eq_false (by omega)
             simp -dsimp +decide (disch := omega) only [vt2, vze, vq, ty, ↓reduceIte, Nat.reduceAdd, vt, htr, g3, hlni, i1, wt, wa, hwk, hw8]
             first | done | exact ⟨(), trivial⟩
         . rintro _ g tmp -
           obtain ⟨Q1, hQ1⟩ : ∃ Q1, Q1 = W1 t.ins.length := ⟨_, rfl⟩
           have hQ1l : Q1.length <= 30000000 := hQ1 ▸ hW1l _
           have hQ132 : H32 Q1 := hQ1 ▸ hW132 _
           rw [<- hQ1]
           obtain ⟨W2, hW2⟩ : ∃ W2 : Nat -> List (List UInt8), ∀ i, W2 i = if (h : Int) = z then Q1 ++ (t.outs.take i).map outH else [] := ⟨_, fun _ => rfl⟩
           have hW2l : ∀ i, (W2 i).length <= 40000000 := fun i => by
            rw [hW2]
            split
            . rw [List.length_append, List.length_map, List.length_take]; omega
            . simp
           have hW232 : ∀ i, H32 (W2 i) := fun i => by
            rw [hW2]
            split
            . intro x hx
              rcases List.mem_append.1 hx with hx | hx
              . exact hQ132 x hx
              . obtain ⟨o, _, rfl⟩ := List.mem_map.1 hx
                exact sha_len _
            . exact fun _ h => nomatch h
           have hW20 : W2 0 = Q1 := by
            rw [hW2]
            split
            . simp
            . rename_i hn; rw [hQ1, hW1, if_neg hn]
           have hEnd : W2 t.outs.length = if (h : Int) = z then blkH A (b.txs.take (k + 1)) else [] := by
            rw [hW2, hQ1, hW1]
            split
            . rename_i he
              rw [List.take_add_one, ht, hQ, if_pos he, Option.toList_some, blkH_snoc, txH, <- hX, List.take_length, List.take_length, List.append_assoc]
            . rfl
           refine SemA.loopK (T.length + 3) (fun i : Nat => [(0, a), (1, .p (.int .i64 z)), (5, .sl T.length 0 X.length), (6, .sl (T.length + 1) 0 (W2 i).length), (7, wint (h : Int)), (8, wint (k : Int)), (9, .ptr (T.length + 2) 0), (13, wint (i : Int))]) (fun i => T ++ [.buf 63 4 (X.flatMap TTx.cs), .buf 33 32 ((W2 i).flatMap H8), .cells 63 t.cs]) (fun i => i <= t.outs.length) (fun i => t.outs.length - i) 0 [] 6 (fun _ : Unit => [(0, a), (1, .p (.int .i64 z)), (5, .sl T.length 0 X.length), (6, .sl (T.length + 1) 0 (W2 t.outs.length).length), (7, wint (h : Int)), (8, wint (k : Int)), (9, .ptr (T.length + 2) 0)]) (fun _ => T ++ [.buf 63 4 (X.flatMap TTx.cs), .buf 33 32 ((W2 t.outs.length).flatMap H8), .cells 63 t.cs]) (fun _ => True) (by omega) (by omega) ?_ ?_ (by simp [recE]) ?_ ?_
           . rw [hW20]; exact (by (try (simp -dsimp +decide (disch := omega) only [vq, ↓reduceIte, Nat.reduceAdd, ci])); first | done | (and_intros <;> first | with_reducible rfl | rfl) | rfl)
           . rw [hW20]
           . rintro i g hi
             refine SemA.o ?_
             by_cases hc3 : i < t.outs.length
             . by_cases he : (h : Int) = z
               . have i1 : ((i : Int) < (t.outs.length : Int)) = True := eq_true (by omega)
                 have i2 : ((h : Int) = z) = True := eq_true he
                 obtain ⟨o, ho⟩ : ∃ o, t.outs[i]? = some o := ⟨t.outs[i]'(by omega), by simp⟩
                 have hoo := hto.oo o (List.mem_of_getElem? ho)
                 have hixo := fun (Y : Tbl) (ik : IntKind) (z : Int) (K : AV -> Prop) => (hto.o.es Y).sl.ix (K := K) (by decide) ik z
                 have hfo := fun j k (K : AV -> Prop) => Sl.fld (K := K) (hto.o.es T).sl (show 0 < t.outs.length by omega) j k
                 have hlb := fun (Y : Tbl) => Sl.loads (hto.o.es Y).sl (P := prog) (t := 53) (by (simp -dsimp +decide only []))
                 have hsc : (t.outs.flatMap TOut.cs)[i * 2 + 1]? = some o.sc.a := by rw [flat_cell (hto.o.es T).wd ho (by decide)]; rfl
                 have hstp : W2 (i + 1) = W2 i ++ [outH o] := by
                  rw [hW2, hW2, if_pos he, if_pos he, List.take_add_one, ho, List.map_append, List.append_assoc]; rfl
                 have hsl := sha_len o.sc.b
                 have hscl := hoo.l
                 have hfl := flat_len (h8 (hW232 i))
                 have hW := hW2l i
                 have hwr := wr32 _ hsl
                 have hon := ones8 (sha o.sc.b)
                 simp -dsimp +decide (disch := omega) only [vq, ty, en, ↓reduceIte, Nat.reduceAdd, htr, g3, hlno, i1, i2, hixo, hfo, hlb, hsc]
                 refine ⟨by omega, (rsumS (hoo.s.bs _) (by omega)).det' ?_⟩
                 simp -dsimp +decide (disch := omega) only [vt2, vze, vq, ty, ↓reduceIte, Nat.reduceAdd, Nat.reduceMul, vi, vt, hsr, htr, wt, wa, hwk, hw8, tk32 _ hsl, hfl, z32_eq, rep1, z32_len, hwr, hon, hsl]
                 refine ⟨⟨by omega, by omega⟩, i + 1, ⟨by omega, by omega⟩, ?_⟩
                 rw [hstp, List.flatMap_append, List.length_append]
                 exact ⟨⟨rfl, rfl⟩, by simp [outH, H8]⟩
               . have i1 : ((i : Int) < (t.outs.length : Int)) = True := eq_true (by omega)
                 have i2 : ((h : Int) = z) = False := eq_false he
                 have hwi : W2 i = W2 t.outs.length := by rw [hW2, hW2, if_neg he, if_neg he]
                 rw [hwi]
                 simp -dsimp +decide (disch := omega) only [vt2, vze, vq, ty, ↓reduceIte, Nat.reduceAdd, vt, htr, g3, hlno, i1, i2, wt, wa, hwk, hw8]
                 first | done | exact ⟨(), trivial⟩
             . have e : i = t.outs.length := by omega
               subst e
               have i1 : ((t.outs.length : Int) < (t.outs.length : Int)) = False := eq_false (by omega)
               simp -dsimp +decide (disch := omega) only [vt2, vze, vq, ty, ↓reduceIte, Nat.reduceAdd, vt, htr, g3, hlno, i1, wt, wa, hwk, hw8]
               first | done | exact ⟨(), trivial⟩
           . rintro _ g tmp -
             rw [hEnd]
             obtain ⟨Q2, hQ2⟩ : ∃ Q2, Q2 = if (h : Int) = z then blkH A (b.txs.take (k + 1)) else [] := ⟨_, rfl⟩
             have hstX : A ++ b.txs.take (k + 1) = X ++ [t] := by rw [List.take_add_one, ht, hX, List.append_assoc]; rfl
             have hflX : (X.flatMap TTx.cs).length = X.length * 4 := flat_len fun t _ => rfl
             have g4 := fun (u : List (List UInt8)) l => gn2 T (.buf 63 4 (X.flatMap TTx.cs)) (.buf 33 32 (u.flatMap H8)) (.cells 63 t.cs) l
             rw [<- hQ2]
             simp -dsimp +decide (disch := omega) only [vt2, vze, vq, ty, ↓reduceIte, Nat.reduceAdd, Nat.reduceMul, vi, vt, hsr, htr, g4, rep1, hflX, wtz, wt, wa, hwk, hw8]
             refine ⟨⟨by omega, by omega⟩, k + 1, ⟨by omega, by omega⟩, ?_⟩
             rw [<- hQ2, hstX, List.flatMap_append, List.length_append]
             exact ⟨⟨rfl, rfl, rfl⟩, by simp⟩
       . have e : k = b.txs.length := by omega
         subst e
         rw [List.take_length] at hwk ⊢
         simp -dsimp +decide (disch := omega) only [vt2, vze, vq, ↓reduceIte, Nat.reduceAdd, vt, wt, wa, hw8, hwk]
         first | done | exact ⟨(), trivial⟩
     . rintro _ g tmp -
       have hwk : ∀ q, ((A ++ b.txs).flatMap TTx.cs).map (AV.wo q) = (A ++ b.txs).flatMap TTx.cs := TTx.wofO fun t ht => by
        rcases List.mem_append.1 ht with ht | ht
        . exact hAok t ht
        . exact hbo.ok t ht
       simp -dsimp +decide (disch := omega) only [vt2, vze, vq, ↓reduceIte, Nat.reduceAdd, vi, vt, wt, wa, hwk, hw8]
       refine ⟨(h + 1, (A ++ b.txs).length, (outAt l z (h + 1)).length), ⟨⟨by dsimp only; omega, .inl (by dsimp only; omega), by dsimp only; rw [hstep], rfl⟩, by dsimp only; omega⟩, ?_⟩
       dsimp only
       rw [hstep, hOut]
       exact (by (try (simp -dsimp +decide (disch := omega) only [vc])); first | done | (and_intros <;> first | with_reducible rfl | rfl) | rfl)
   . have hfin : outAt l z h = touchZ l z := outAt_end (by
      rcases Nat.lt_or_ge h l.length with h1 | h1
      . right
        have : ¬ (h : Int) <= z := fun h2 => hc ⟨h1, h2⟩
        omega
      . left; omega)
     rw [hfin] at hnO ⊢
     rw [hnA, hnO]
     rcases Nat.lt_or_ge h l.length with h1 | h1
     . have c1 : ((h : Int) < (l.length : Int)) = True := eq_true (by omega)
       have c2 : ((h : Int) <= z) = False := eq_false fun h2 => hc ⟨h1, h2⟩
       simp -dsimp +decide (disch := omega) only [vt2, vze, vq, ty, ↓reduceIte, Nat.reduceAdd, vt, wt, wa, hsr, c1, c2, hwA, hw8]
       exact ⟨_, rfl⟩
     . have c1 : ((h : Int) < (l.length : Int)) = False := eq_false (by omega)
       simp -dsimp +decide (disch := omega) only [vt2, vze, vq, ty, ↓reduceIte, Nat.reduceAdd, vt, wt, wa, hsr, c1, hwA, hw8]
       exact ⟨_, rfl⟩
 . rintro A g tmp -
   simp -dsimp +decide (disch := omega) only [vp0, en, ↓reduceIte, Nat.reduceAdd]
   have hE : Es (T ++ [.buf 63 4 (A.flatMap TTx.cs), .buf 33 32 ((touchZ l z).flatMap H8)]) 32 H8 (.sl (T.length + 1) 0 (touchZ l z).length) (touchZ l z) := Es.obj (gn1 T _ _ _) rfl (h8 (touchZ_32 l z))
   refine (runlike_ok hE (by have := touchZ_le hok z; omega)).det' ?_
   simp -dsimp +decide (disch := omega) only [va, ↓reduceIte]
   exact Vw.cut ⟨rfl, rfl, rfl⟩
theorem Stn.get (s : Stn) (k : Nat) : s.cs[34 + k]? = s.t.cs[k]? := by
 have hp : (s.t.id.map by8).length = 32 := by rw [List.length_map, s.t.id_len]
 rw [Stn.cs, show 34 + k = (32 + k) + 1 + 1 by omega, List.getElem?_cons_succ, List.getElem?_cons_succ, List.getElem?_append_right (by omega), hp, show 32 + k - 32 = k by omega]
theorem Stn.tx (s : Stn) : List.take 4 (List.drop 34 s.cs) = s.t.cs := by
 have hp : (s.t.id.map by8).length = 32 := by rw [List.length_map, s.t.id_len]
 rw [Stn.cs, show 34 = 32 + 1 + 1 from rfl, List.drop_succ_cons, List.drop_succ_cons, <- hp, List.drop_left]
 rfl
theorem Stn.idc (s : Stn) : List.take 32 (List.drop 2 s.cs) = s.t.id.map by8 := by
 have hp : (s.t.id.map by8).length = 32 := by rw [List.length_map, s.t.id_len]
 rw [Stn.cs, show 2 = 0 + 1 + 1 from rfl, List.drop_succ_cons, List.drop_succ_cons, List.drop_zero, <- hp, List.take_left]
theorem from15_ok {T : Tbl} {a : AV} {S : List Stn} (hb : Es T 38 Stn.cs a S) (hok : ∀ s ∈ S, s.t.Ok) (hl : S.length <= 1000000) {tx : List UInt8} (htx : tx.length = 32) {n : UInt32} :
 CallA prog G 73 [a, wint (S.length : Int), .p (.int .i64 0), .ag (plc tx n)] T fun v T' es => (∃ b : Bool, v = .p (.bool b)) /\ T' = T /\ es = [] := by
 refine CallA.wfs fun wf => ?_
 have wt := wf.t
 have wa := wf.arg a (by simp)
 have hsr := Sl.rules hb.sl (by decide)
 have hwp : ∀ q, (plc tx n).map (AV.wo q) = plc tx n := fun q => by rw [plc, List.map_append, wb8]; simp only [List.map_cons, List.map_nil, w32, AV.wo]
 have hpl : (plc tx n).length = 33 := by rw [plc, List.length_append, List.length_map, htx]; rfl
 have hp0 : List.take 33 (plc tx n) = plc tx n := List.take_of_length_le (by omega)
 have g0 := fun l => gn0 T (.cells 65 (plc tx n)) l
 have hlsl := Sl.loads hb.sl (P := prog) (t := 60) (by (simp -dsimp +decide only []))
 refine CallA.eV 64 func73 ntmps73 results73 ?_
 simp -dsimp +decide only [vq, ↓reduceIte, Nat.reduceSub, Nat.reduceAdd]
 refine SemA.loopK (T.length + 1) (fun i : Nat => [(0, a), (1, wint (S.length : Int)), (2, .p (.int .i64 0)), (7, .ptr T.length 0), (9, wint (i : Int))]) (fun _ => T ++ [.cells 65 (plc tx n)]) (fun i => i <= S.length) (fun i => S.length - i) 0 [] 0 (fun _ : Unit => []) (fun _ => T ++ [.cells 65 (plc tx n)]) (fun _ => True) (by omega) (by omega) (by (simp -dsimp +decide (disch := omega) only [vq, Nat.reduceAdd, ci]); first | rfl | done) rfl (by simp) ?_ ?_
 . rintro i g hi
   refine SemA.o ?_
   have hle : ((i : Int) <= (S.length : Int)) = True := eq_true (by omega)
   simp -dsimp +decide (disch := omega) only [vq, ty, ↓reduceIte, Nat.reduceAdd, hsr, hle]
   refine CondP.dec (fun hc => ?_) (fun hc => ?_)
   . obtain ⟨s, hs⟩ : ∃ s, S[i]? = some s := ⟨S[i]'(by omega), by simp⟩
     have hto := hok s (List.mem_of_getElem? hs)
     have hne : 0 < S.length := by omega
     have hil := hto.il
     have hfd := fun j k (K : AV -> Prop) => Sl.fld (K := K) hb.sl hne j k
     have hia : (S.flatMap Stn.cs)[i * 38 + 35]? = some s.t.ia := by rw [flat_cell (fun s _ => s.cs_len) hs (by decide), Stn.get s 1]; rfl
     have hln := fun (Y : Tbl) s2 K => ((hto.i.es Y).sl).ln (K := K) s2
     simp -dsimp +decide (disch := omega) only [va, ↓reduceIte]
     have hlen : ((i : Int) < (S.length : Int)) = True := eq_true (by omega)
     refine SemA.loopK (T.length + 1) (fun k : Nat => [(0, a), (1, wint (S.length : Int)), (2, .p (.int .i64 0)), (7, .ptr T.length 0), (9, wint (i : Int)), (10, wint (k : Int))]) (fun _ => T ++ [.cells 65 (plc tx n)]) (fun k => k <= s.t.ins.length) (fun k => s.t.ins.length - k) 0 [] 2 (fun _ : Unit => [(0, a), (1, wint (S.length : Int)), (2, .p (.int .i64 0)), (7, .ptr T.length 0), (9, wint (i : Int))]) (fun _ => T ++ [.cells 65 (plc tx n)]) (fun _ => True) (by omega) (by omega) (by (simp -dsimp +decide (disch := omega) only [vq, Nat.reduceAdd, ci]); first | rfl | done) rfl (by simp) ?_ ?_
     . rintro k g hk
       refine SemA.o ?_
       by_cases h2 : k < s.t.ins.length
       . have i2 : ((k : Int) < (s.t.ins.length : Int)) = True := eq_true (by omega)
         simp -dsimp +decide (disch := omega) only [vq, ty, ↓reduceIte, Nat.reduceAdd, hsr, hlsl, hfd, hia, hln, hlen, i2]
         refine ⟨by omega, ?_⟩
         obtain ⟨x, hx⟩ : ∃ x, s.t.ins[k]? = some x := ⟨s.t.ins[k]'(by omega), by simp⟩
         have hxo := hto.ii x (List.mem_of_getElem? hx)
         have hlp := fun (Y : Tbl) (K : AV -> Prop) => (show loadA prog 65 (s.t.ia.pl (k * 36)) Y K = K (.ag (plc x.tx x.n)) by
          have hts : tsz prog 65 = 33 := by (simp -dsimp +decide only [])
          have h3 := (hto.i.es Y).sl.lds (K := K) (P := prog) (t := 65) (by (simp -dsimp +decide only [])) (k * 36) (by rw [hts]; decide) (by rw [hts]; omega)
          rw [h3, hts]
          have h4 := flat_at (hto.i.es Y).wd hx
          have h5 : List.take 33 (List.drop (k * 36) (s.t.ins.flatMap TIn.cs)) = List.take 33 x.cs := by rw [<- h4, List.take_take]; rfl
          rw [h5]
          congr 2
          rw [TIn.cs, List.take_append, List.length_map, hxo.t, List.take_of_length_le (by rw [List.length_map, hxo.t]; decide)]
          rfl)
         have hixi := fun (Y : Tbl) (ik : IntKind) (z : Int) (K : AV -> Prop) => (hto.i.es Y).sl.ix (K := K) (by decide) ik z
         have hldt := fun (Y : Tbl) (K : AV -> Prop) => (show loadA prog 63 (a.pl (i * 38 + 34)) (T ++ Y) K = K (.ag s.t.cs) by
          have hts : tsz prog 63 = 4 := by (simp -dsimp +decide only [])
          have h3 := (hb.app Y).sl.lds (K := K) (P := prog) (t := 63) (by (simp -dsimp +decide only [])) (i * 38 + 34) (by rw [hts]; decide) (by rw [hts]; omega)
          rw [h3, hts]
          have h4 := flat_at hb.wd hs
          rw [show List.take 4 (List.drop (i * 38 + 34) (S.flatMap Stn.cs)) = List.take 4 (List.drop 34 s.cs) by rw [<- h4, List.drop_take, List.take_take, List.drop_drop]; rfl, Stn.tx])
         have hfi := fun j k (K : AV -> Prop) => Sl.fld (K := K) (hto.i.es T).sl (show 0 < s.t.ins.length by omega) j k
         have hq := fun xo yo K => eqp hxo.t htx x.n n xo yo K
         refine SemA.draw (fun i => true) [(0, true), (1, true), (2, true), (3, true), (4, true), (5, true), (6, true), (7, true), (8, true), (9, true), (10, true), (11, true), (12, true), (13, true), (14, true), (15, true), (16, true), (17, true), (18, false), (19, true), (20, true)] mixed (by kernel_rfl) ?_
         by_cases c1 : x.tx = tx /\ x.n = n
         . have i1 : (x.tx = tx /\ x.n = n) = True := eq_true c1
           simp -dsimp +decide (disch := omega) only [vp0, ty, en, ↓reduceIte, Nat.reduceAdd, vt, hsr, hlsl, hfd, hia, hixi, hfi, hlp, hldt, g0, hpl, hp0, hq, i1]
           refine ⟨⟨by omega, by omega⟩, ⟨by omega, by omega⟩, ⟨by omega, by omega⟩, (coin15_ok hto).det' ?_⟩
           cases mintB s.t with
           | true =>
             simp -dsimp +decide (disch := omega) only [vt2, vze, vq, ↓reduceIte, Nat.reduceAdd, vi, vt, wt, wa, hwp]
             exact ⟨k + 1, ⟨by omega, by omega⟩, rfl⟩
           | false =>
             simp -dsimp +decide (disch := omega) only [vp0, ↓reduceIte, vt]
             exact Vw.cut ⟨⟨_, rfl⟩, rfl, rfl⟩
         . have i1 : (x.tx = tx /\ x.n = n) = False := eq_false c1
           simp -dsimp +decide (disch := omega) only [vt2, vze, vq, ty, ↓reduceIte, Nat.reduceAdd, vi, vt, hsr, hlsl, hfd, hia, hixi, hfi, hlp, g0, hpl, hp0, hq, i1, wt, wa, hwp]
           exact ⟨⟨by omega, by omega⟩, ⟨by omega, by omega⟩, k + 1, ⟨by omega, by omega⟩, rfl⟩
       . have i2 : ((k : Int) < (s.t.ins.length : Int)) = False := eq_false (by omega)
         simp -dsimp +decide (disch := omega) only [vt2, vze, vq, ty, ↓reduceIte, Nat.reduceAdd, vt, hsr, hlsl, hfd, hia, hln, hlen, i2, wt, wa, hwp]
         exact ⟨by omega, (), trivial⟩
     . rintro _ g tmp -
       simp -dsimp +decide (disch := omega) only [vt2, vze, vq, ↓reduceIte, Nat.reduceAdd, vi, vt, wt, wa, hwp]
       exact ⟨i + 1, ⟨by omega, by omega⟩, rfl⟩
   . simp -dsimp +decide (disch := omega) only [vt2, vze, vp0, ↓reduceIte, Nat.reduceAdd, vt, wt, hwp]
     exact ⟨(), trivial⟩
 . rintro _ g tmp -
   simp -dsimp +decide (disch := omega) only [vp0, ↓reduceIte, Nat.reduceAdd]
   exact Vw.cut ⟨⟨_, rfl⟩, rfl, rfl⟩
end Go.Proofs.YtmcbdlefakjpoaaGreatDoor
namespace Go.E
section
variable {P : Program} {G : Nat -> AV} {Z Z' Z0 : Heap} {ρ ρ' ρ0 : List BI} {T T' T0 : Tbl} {w w' w0 : World} {a b : AV} {u v : Value} {K : AV -> Tbl -> Eff -> Prop} {cs : List AV} {es E : Eff}
variable {N n m : Nat} {ro : Option Nat} {ds loc : List AV} {tmp : List (Nat × AV)} {Nk R : AKont} {X : Nat -> AKont}
inductive PU where
 | nil : PU
 | st : Nat -> Bool -> PU -> PU
 | alt : Nat -> PU -> Nat -> PU -> PU
 | al3 : Nat -> PU -> Nat -> PU -> Nat -> PU -> PU
def PU.len : PU -> Nat
 | .nil => 0
 | .st _ _ r => r.len + 1
 | .alt _ r _ _ => r.len + 1
 | .al3 _ r _ _ _ _ => r.len + 1
def PU.isNil : PU -> Bool
 | .nil => true
 | _ => false
def planOKU (ops : Array Oper) (cl : Nat) (o : Option Nat) : PU -> Array Bool -> Bool
 | .nil, listed => (Region.ready .any ops listed).isEmpty
 | .st i fl r, listed =>
   (if fl then (Region.ready .any ops listed).contains i && Region.free .any ops listed i && (cl != i && ((match ops[i]? with | none => false | some oi => pureOp oi.op) || blocks ops cl i listed))
    else Region.ready .any ops listed == [i] && (if r.isNil || some i == o then i == cl && decide (i < listed.size) else !(listed.getD cl false) && i != cl)) &&
   planOKU ops cl o r (listed.setIfInBounds i true)
 | .alt i r j s, listed => Region.ready .any ops listed == [i, j] && !(listed.getD cl false) && i != cl && j != cl && r.len == s.len && planOKU ops cl o r (listed.setIfInBounds i true) && planOKU ops cl o s (listed.setIfInBounds j true)
 | .al3 i r j s k t, listed => Region.ready .any ops listed == [i, j, k] && !(listed.getD cl false) && i != cl && j != cl && k != cl && r.len == s.len && r.len == t.len && planOKU ops cl o r (listed.setIfInBounds i true) && planOKU ops cl o s (listed.setIfInBounds j true) && planOKU ops cl o t (listed.setIfInBounds k true)
def planU (P : Program) (n : Nat) (base : Nat -> Value) (ops : List Oper) (cl : Option Nat) (I : World -> Prop) (ds : List Nat) : PU -> List Value -> List (Nat × Value) -> World -> (K : Kont) -> Prop
 | .nil, loc, tmp, w, K => K ds loc tmp w
 | .st i true r, loc, tmp, w, K => planO n base ops ops[i]? loc tmp
   (fun o => floatV P (ev n base loc tmp) o.op o.type I fun v => putK n o.dst v loc tmp fun loc tmp => planU P n base ops cl I ds r loc tmp w K)
   (fun o => putK n o.dst undef loc tmp fun loc tmp => planU P n base ops cl I ds r loc tmp w K)
 | .st i false r, loc, tmp, w, K => planO n base ops ops[i]? loc tmp
   (fun o => opV P (ev n base loc tmp) o.op o.type w fun v w' => putK n o.dst v loc tmp fun loc tmp => ∃ I', (r.isNil = false -> some i ≠ cl -> I' w' /\ ∀ w, I' w -> I w) /\ planU P n base ops cl I' ds r loc tmp w' K)
   (fun o => putK n o.dst undef loc tmp fun loc tmp => planU P n base ops cl I ds r loc tmp w K)
 | .alt i r j s, loc, tmp, w, K =>
   planO n base ops ops[i]? loc tmp
    (fun o => opV P (ev n base loc tmp) o.op o.type w fun v w' => putK n o.dst v loc tmp fun loc tmp => ∃ I', (I' w' /\ ∀ w, I' w -> I w) /\ planU P n base ops cl I' ds r loc tmp w' K)
    (fun o => putK n o.dst undef loc tmp fun loc tmp => planU P n base ops cl I ds r loc tmp w K) /\
   planO n base ops ops[j]? loc tmp
    (fun o => opV P (ev n base loc tmp) o.op o.type w fun v w' => putK n o.dst v loc tmp fun loc tmp => ∃ I', (I' w' /\ ∀ w, I' w -> I w) /\ planU P n base ops cl I' ds s loc tmp w' K)
    (fun o => putK n o.dst undef loc tmp fun loc tmp => planU P n base ops cl I ds s loc tmp w K)
 | .al3 i r j s k t, loc, tmp, w, K =>
   planO n base ops ops[i]? loc tmp
    (fun o => opV P (ev n base loc tmp) o.op o.type w fun v w' => putK n o.dst v loc tmp fun loc tmp => ∃ I', (I' w' /\ ∀ w, I' w -> I w) /\ planU P n base ops cl I' ds r loc tmp w' K)
    (fun o => putK n o.dst undef loc tmp fun loc tmp => planU P n base ops cl I ds r loc tmp w K) /\
   planO n base ops ops[j]? loc tmp
    (fun o => opV P (ev n base loc tmp) o.op o.type w fun v w' => putK n o.dst v loc tmp fun loc tmp => ∃ I', (I' w' /\ ∀ w, I' w -> I w) /\ planU P n base ops cl I' ds s loc tmp w' K)
    (fun o => putK n o.dst undef loc tmp fun loc tmp => planU P n base ops cl I ds s loc tmp w K) /\
   planO n base ops ops[k]? loc tmp
    (fun o => opV P (ev n base loc tmp) o.op o.type w fun v w' => putK n o.dst v loc tmp fun loc tmp => ∃ I', (I' w' /\ ∀ w, I' w -> I w) /\ planU P n base ops cl I' ds t loc tmp w' K)
    (fun o => putK n o.dst undef loc tmp fun loc tmp => planU P n base ops cl I ds t loc tmp w K)
theorem planU_any {Q : Exit -> Act -> World -> Prop} {n m cl : Nat} {oc : Option Nat} {base : Nat -> Value} {l : List Oper} {ds : List Nat} {K : Kont} (hsel : Region.noSelect l.toArray = true) (hdef : noDefer l.toArray = true) (hQ : ∀ c (a a' : Act) w, Q (.panic c) a w -> Q (.panic c) a' w) (hall : l.all (dstIn m) = true) :
 ∀ (pl : PU) (listed : Array Bool) (I : World -> Prop) (loc : List Value) (tmp : List (Nat × Value)) (w : World) (a : Act), planU P n base l oc I ds pl loc tmp w K -> planOKU l.toArray cl oc pl listed = true -> (listed.getD cl false = false -> I w) ->
  Agree n base loc tmp a -> a.tmps.size = m -> a.defers = ds.map markOf ->
  (∀ loc tmp w a, Agree n base loc tmp a -> a.tmps.size = m -> a.defers = ds.map markOf -> K ds loc tmp w -> Q .normal a w) -> AnyI ro P l.toArray Q cl I pl.len listed a w
 | .nil, listed, I, loc, tmp, w, a, h, hpl, hI, ha, hs, hd, hK => by
   simp only [planOKU, List.isEmpty_iff] at hpl
   exact ⟨hI, hpl, hK loc tmp w a ha hs hd h⟩
 | .st i fl r, listed, I, loc, tmp, w, a, h, hpl, hI, ha, hs, hd, hK => by
   rw [planOKU, Bool.and_eq_true] at hpl
   obtain ⟨hpl1, hpl2⟩ := hpl
   cases ho : l[i]? with
   | none => cases fl <;> (simp only [planU, ho, planO] at h)
   | some o =>
     have hoi : l.toArray[i]? = some o := by simpa using ho
     have hmem : o ∈ l := List.mem_of_getElem? ho
     have hd1 : dstIn m o = true := List.all_eq_true.1 hall o hmem
     have hdst : ∀ t, o.dst = some t -> t < a.tmps.size := by rw [hs]; exact dstIn_spec hd1
     have hnext : ∀ (I' : World -> Prop) v w', ((listed.setIfInBounds i true).getD cl false = false -> I' w') -> (putK n o.dst v loc tmp fun loc tmp => planU P n base l oc I' ds r loc tmp w' K) -> AnyI ro P l.toArray Q cl I' r.len (listed.setIfInBounds i true) (a.put o.dst v) w' := by
      intro I' v w' hI' hv
      obtain ⟨loc', tmp', ha', hv'⟩ := ha.put hdst v hv
      exact planU_any hsel hdef hQ hall r _ I' loc' tmp' w' _ hv' hpl2 hI' ha' (by cases o.dst <;> simp [Act.put, hs]) (by cases o.dst <;> simp [Act.put, hd]) hK
     cases fl with
     | true =>
       simp only [planU, ho, planO] at h
       rw [<- ha.ev] at h
       simp only [if_true, Bool.and_eq_true, List.contains_iff_mem, Bool.or_eq_true, bne_iff_ne, ne_eq, hoi] at hpl1
       obtain ⟨⟨hp1, hp2⟩, hp4, hp3⟩ := hpl1
       have hnext' : ∀ v, (putK n o.dst v loc tmp fun loc tmp => planU P n base l oc I ds r loc tmp w K) -> AnyI ro P l.toArray Q cl I r.len (listed.setIfInBounds i true) (a.put o.dst v) w := fun v hk =>
        hnext I v w (fun hl => hI (by rw [getD_set_ne false (Ne.symm hp4)] at hl; exact hl)) hk
       rcases hp3 with hp3 | hp3
       . have hgive : ∃ v, GivesI P l.toArray (fun _ => True) o v a /\ putK n o.dst v loc tmp fun loc tmp => planU P n base l oc I ds r loc tmp w K := by
          rcases grdV_wanted h with ⟨hw, h⟩ | ⟨hw, h⟩
          . obtain ⟨v, hv, hk⟩ := floatV_run (floatV_pure hp3 h)
            exact ⟨v, .inl ⟨hw, hv⟩, hk⟩
          . exact ⟨undef, .inr ⟨hw, rfl⟩, h⟩
         obtain ⟨v, hg, hk⟩ := hgive
         exact AnyI_first2 [] (.inl fun _ => trivial) hp4 hoi (Region.noSelect_spec hsel) (noDefer_spec hdef) (fun c a w => hQ c _ _ w) r.len listed a w (fun j oj hj hne hun hno => Region.free_spec hoi hp2 j oj hj hne hun hno) (.inl fun _ => trivial) hp1 hg (hnext' v hk)
       . have hgive : ∃ v, GivesI P l.toArray I o v a /\ putK n o.dst v loc tmp fun loc tmp => planU P n base l oc I ds r loc tmp w K := by
          rcases grdV_wanted h with ⟨hw, h⟩ | ⟨hw, h⟩
          . obtain ⟨v, hv, hk⟩ := floatV_run h
            exact ⟨v, .inl ⟨hw, hv⟩, hk⟩
          . exact ⟨undef, .inr ⟨hw, rfl⟩, h⟩
         obtain ⟨v, hg, hk⟩ := hgive
         simp only [blocks, Bool.and_eq_true, Bool.or_eq_true, Bool.not_eq_true', List.contains_iff_mem, List.all_eq_true] at hp3
         obtain ⟨⟨⟨hb1, hb2⟩, hb3⟩, hb4⟩ := hp3
         refine AnyI_first2 (waitsFor l.toArray i) (.inr ⟨fun _ h => h, ?_, fun j hj oj hoj => ?_⟩) hp4 hoi (Region.noSelect_spec hsel) (noDefer_spec hdef) (fun c a w => hQ c _ _ w) r.len listed a w (fun j oj hj hne hun hno => Region.free_spec hoi hp2 j oj hj hne hun hno) (.inr ⟨hb3, hb4⟩) hp1 hg (hnext' v hk)
         . rcases hb2 with h | h
           . exact .inl h
           . right
             split at h
             . assumption
             . cases h
         . have := List.all_eq_true.1 hb1 j hj
           rw [hoj] at this
           obtain ⟨k, hk, hk'⟩ := Array.any_eq_true.1 this
           simp only [Bool.and_eq_true, Bool.or_eq_true, beq_iff_eq, List.contains_iff_mem] at hk'
           exact ⟨_, Array.getElem_mem hk, hk'⟩
     | false =>
       simp only [Bool.false_eq_true, if_false, beq_iff_eq, Bool.and_eq_true] at hpl1
       obtain ⟨hp1, hp2⟩ := hpl1
       refine ⟨hI, fun e => (by rw [e] at hp1; cases hp1), fun j hj => ?_⟩
       rw [hp1, List.mem_singleton] at hj
       subst hj
       unfold wpOpIn
       simp only [hoi]
       simp only [planU, ho, planO] at h
       rw [<- ha.ev] at h
       by_cases hcl : r.isNil = true ∨ some j = oc
       . have hcl' : (r.isNil || some j == oc) = true := by
          rcases hcl with h | h
          . simp [h]
          . simp [h]
         rw [hcl', if_pos rfl, Bool.and_eq_true, beq_iff_eq, decide_eq_true_eq] at hp2
         have hset : (listed.setIfInBounds j true).getD cl false = true := by
          rw [<- hp2.1]; simp [hp2.2]
         have hfin : ∀ (I' : World -> Prop) v w', (putK n o.dst v loc tmp fun loc tmp => planU P n base l oc I' ds r loc tmp w' K) -> AnyI ro P l.toArray Q cl I r.len (listed.setIfInBounds j true) (a.put o.dst v) w' := fun I' v w' hv =>
          (hnext I' v w' (fun hf => by rw [hset] at hf; cases hf) hv).listed _ _ _ _ hset
         rcases grdV_wanted h with ⟨hw, h⟩ | ⟨hw, h⟩
         . rw [if_pos hw]
           refine (opV_step h).wp fun v w' hv => ?_
           obtain ⟨loc', tmp', ha', I', hI', hv'⟩ := ha.put hdst v hv
           exact (planU_any hsel hdef hQ hall r _ I' loc' tmp' w' _ hv' hpl2 (fun hf => by rw [hset] at hf; cases hf) ha' (by cases o.dst <;> simp [Act.put, hs]) (by cases o.dst <;> simp [Act.put, hd]) hK).listed _ _ _ _ hset
         . rw [if_neg (by rw [hw]; simp)]
           exact ⟨fun f _ => fz_fn f, hfin I _ _ h⟩
       . have hcl' : (r.isNil || some j == oc) = false := by
          rw [not_or] at hcl
          simp [hcl.1, hcl.2]
         rw [hcl'] at hp2
         simp only [Bool.false_eq_true, if_false, Bool.and_eq_true, Bool.not_eq_true', bne_iff_ne, ne_eq] at hp2
         rw [not_or] at hcl
         have hfin : ∀ v w', (putK n o.dst v loc tmp fun loc tmp => ∃ I', (r.isNil = false -> some j ≠ oc -> I' w' /\ ∀ w, I' w -> I w) /\ planU P n base l oc I' ds r loc tmp w' K) -> AnyI ro P l.toArray Q cl I r.len (listed.setIfInBounds j true) (a.put o.dst v) w' := by
          intro v w' hv
          obtain ⟨loc', tmp', ha', I', hI', hv'⟩ := ha.put hdst v hv
          have hi' := hI' (by simpa using hcl.1) hcl.2
          exact (planU_any hsel hdef hQ hall r _ I' loc' tmp' w' (a.put o.dst v) hv' hpl2 (fun _ => hi'.1) ha' (by cases o.dst <;> simp [Act.put, hs]) (by cases o.dst <;> simp [Act.put, hd]) hK).mono hi'.2
         rcases grdV_wanted h with ⟨hw, h⟩ | ⟨hw, h⟩
         . rw [if_pos hw]
           exact (opV_step h).wp hfin
         . rw [if_neg (by rw [hw]; simp)]
           exact ⟨fun f _ => fz_fn f, hnext I _ _ (fun _ => hI hp2.1) h⟩
 | .alt i r j s, listed, I, loc, tmp, w, a, h, hpl, hI, ha, hs, hd, hK => by
   simp only [planOKU, Bool.and_eq_true, beq_iff_eq, Bool.not_eq_true', bne_iff_ne, ne_eq] at hpl
   obtain ⟨⟨⟨⟨⟨⟨hp1, hp2⟩, hp3⟩, hp4⟩, hp5⟩, hp6⟩, hp7⟩ := hpl
   obtain ⟨h1, h2⟩ := h
   refine ⟨hI, fun e => (by rw [e] at hp1; cases hp1), fun k hk => ?_⟩
   rw [hp1] at hk
   rcases List.mem_cons.1 hk with rfl | hk
   . exact stepT hall h1 ha hs hd (hI hp2) (fun I' loc tmp w a hf hi' ha hs hd => planU_any hsel hdef hQ hall r _ I' loc tmp w a hf hp6 (fun _ => hi') ha hs hd hK)
   . rw [List.mem_singleton] at hk
     subst hk
     have := stepT hall h2 ha hs hd (hI hp2) (fun I' loc tmp w a hf hi' ha hs hd => planU_any hsel hdef hQ hall s _ I' loc tmp w a hf hp7 (fun _ => hi') ha hs hd hK)
     rw [hp5]
     exact this
 | .al3 i r j s k2 t, listed, I, loc, tmp, w, a, h, hpl, hI, ha, hs, hd, hK => by
   simp only [planOKU, Bool.and_eq_true, beq_iff_eq, Bool.not_eq_true', bne_iff_ne, ne_eq] at hpl
   obtain ⟨⟨⟨⟨⟨⟨⟨⟨⟨hp1, hp2⟩, hp3⟩, hp4⟩, hp4'⟩, hp5⟩, hp5'⟩, hp6⟩, hp7⟩, hp8⟩ := hpl
   obtain ⟨h1, h2, h3⟩ := h
   refine ⟨hI, fun e => (by rw [e] at hp1; cases hp1), fun k hk => ?_⟩
   rw [hp1] at hk
   rcases List.mem_cons.1 hk with rfl | hk
   . exact stepT hall h1 ha hs hd (hI hp2) (fun I' loc tmp w a hf hi' ha hs hd => planU_any hsel hdef hQ hall r _ I' loc tmp w a hf hp6 (fun _ => hi') ha hs hd hK)
   . rcases List.mem_cons.1 hk with rfl | hk
     . have := stepT hall h2 ha hs hd (hI hp2) (fun I' loc tmp w a hf hi' ha hs hd => planU_any hsel hdef hQ hall s _ I' loc tmp w a hf hp7 (fun _ => hi') ha hs hd hK)
       rw [hp5]
       exact this
     . rw [List.mem_singleton] at hk
       subst hk
       have := stepT hall h3 ha hs hd (hI hp2) (fun I' loc tmp w a hf hi' ha hs hd => planU_any hsel hdef hQ hall t _ I' loc tmp w a hf hp8 (fun _ => hi') ha hs hd hK)
       rw [hp5']
       exact this
def planUA (P : Program) (G : Nat -> AV) (N n : Nat) (ops : List Oper) (cl : Option Nat) (keep : Nat -> Bool) : List AV -> PU -> List AV -> List (Nat × AV) -> Tbl -> Eff -> (K : AKont) -> Prop
 | ds, .nil, loc, tmp, T, E, K => K ds loc tmp T E
 | ds, .st i true r, loc, tmp, T, E, K => planOA ops ops[i]? (evA G n loc tmp)
  (fun o => rdA P (evA G n loc tmp) o.op o.type (keepT keep T) fun v => putA n o.dst v loc tmp fun loc tmp => planUA P G N n ops cl keep ds r loc tmp T E K)
  (fun o => putA n o.dst (.p undef) loc tmp fun loc tmp => planUA P G N n ops cl keep ds r loc tmp T E K)
 | ds, .st i false r, loc, tmp, T, E, K => planOA ops ops[i]? (evA G n loc tmp)
  (fun o => opA P G (evA G n loc tmp) o.op o.type T fun v T' es => putA n o.dst v (slots es loc) (slotsT es tmp) fun loc tmp => (keepOK keep es = true ∨ r.isNil = true ∨ some i = cl) /\ planUA P G N n ops cl keep (slots es ds) r loc tmp T' (recE N es E) K)
  (fun o => putA n o.dst (.p undef) loc tmp fun loc tmp => planUA P G N n ops cl keep ds r loc tmp T E K)
 | ds, .alt i r j s, loc, tmp, T, E, K => planOA ops ops[i]? (evA G n loc tmp)
  (fun o => opA P G (evA G n loc tmp) o.op o.type T fun v T' es => putA n o.dst v (slots es loc) (slotsT es tmp) fun loc tmp => (keepOK keep es = true) /\ planUA P G N n ops cl keep (slots es ds) r loc tmp T' (recE N es E) K)
  (fun o => putA n o.dst (.p undef) loc tmp fun loc tmp => planUA P G N n ops cl keep ds r loc tmp T E K) /\
   planOA ops ops[j]? (evA G n loc tmp)
    (fun o => opA P G (evA G n loc tmp) o.op o.type T fun v T' es => putA n o.dst v (slots es loc) (slotsT es tmp) fun loc tmp => (keepOK keep es = true) /\ planUA P G N n ops cl keep (slots es ds) s loc tmp T' (recE N es E) K)
    (fun o => putA n o.dst (.p undef) loc tmp fun loc tmp => planUA P G N n ops cl keep ds s loc tmp T E K)
 | ds, .al3 i r j s k t, loc, tmp, T, E, K => planOA ops ops[i]? (evA G n loc tmp)
  (fun o => opA P G (evA G n loc tmp) o.op o.type T fun v T' es => putA n o.dst v (slots es loc) (slotsT es tmp) fun loc tmp => (keepOK keep es = true) /\ planUA P G N n ops cl keep (slots es ds) r loc tmp T' (recE N es E) K)
  (fun o => putA n o.dst (.p undef) loc tmp fun loc tmp => planUA P G N n ops cl keep ds r loc tmp T E K) /\
   planOA ops ops[j]? (evA G n loc tmp)
    (fun o => opA P G (evA G n loc tmp) o.op o.type T fun v T' es => putA n o.dst v (slots es loc) (slotsT es tmp) fun loc tmp => (keepOK keep es = true) /\ planUA P G N n ops cl keep (slots es ds) s loc tmp T' (recE N es E) K)
    (fun o => putA n o.dst (.p undef) loc tmp fun loc tmp => planUA P G N n ops cl keep ds s loc tmp T E K) /\
   planOA ops ops[k]? (evA G n loc tmp)
    (fun o => opA P G (evA G n loc tmp) o.op o.type T fun v T' es => putA n o.dst v (slots es loc) (slotsT es tmp) fun loc tmp => (keepOK keep es = true) /\ planUA P G N n ops cl keep (slots es ds) t loc tmp T' (recE N es E) K)
    (fun o => putA n o.dst (.p undef) loc tmp fun loc tmp => planUA P G N n ops cl keep ds t loc tmp T E K)
theorem planUA_sound {n : Nat} {base : Nat -> Value} {ops : List Oper} {cl : Option Nat} {keep : Nat -> Bool} {K : AKont} : ∀ (pl : PU) (ds loc : List AV) (tmp : List (Nat × AV)) (dv : List Nat) (lv : List Value) (tv : List (Nat × Value)) (Z : Heap) (ρ : List BI) (T : Tbl) (w : World) (E : Eff),
 planUA P G ρ0.length n ops cl keep ds pl loc tmp T E K -> Frm G Z0 ρ0 T0 w0 Z ρ T w E -> At Z ρ ds loc tmp dv lv tv -> planU P n base ops cl (Agr Z ρ (keepT keep T) w) dv pl lv tv w (LK G Z0 ρ0 T0 w0 K)
 | .nil, ds, loc, tmp, dv, lv, tv, Z, ρ, T, w, E, h, hf, ha => ⟨Z, ρ, T, E, ds, loc, tmp, hf, ha.ds, ha.loc, ha.tmp, h⟩
 | .st i true r, ds, loc, tmp, dv, lv, tv, Z, ρ, T, w, E, h, hf, ha => by
   simp only [planUA, planOA] at h
   simp only [planU, planO]
   have he := evA_rel (n := n) (base := base) hf.g ha.loc ha.tmp
   cases ho : ops[i]? with
   | none => rw [ho] at h; exact h.elim
   | some o =>
     rw [ho] at h
     simp only at h ⊢
     refine grdA_sound h he (fun h => ?_) (fun h => ?_)
     . refine valV_mono (rdA_sound (hf.st.keepT keep) he h) (fun _ _ h => h) (fun s h => FloatP.mono h (fun _ h => h) ?_) ?_
       all_goals
        rintro v ⟨a, h1, h2⟩
        exact putA_sound h2 h1 ha fun loc tmp lv tv hk hat => planUA_sound r _ _ _ _ _ _ _ _ _ _ _ hk hf hat
     . exact putA_sound h (.p _) ha fun loc tmp lv tv hk hat => planUA_sound r _ _ _ _ _ _ _ _ _ _ _ hk hf hat
 | .st i false r, ds, loc, tmp, dv, lv, tv, Z, ρ, T, w, E, h, hf, ha => by
   simp only [planUA, planOA] at h
   simp only [planU, planO]
   have he := evA_rel (n := n) (base := base) hf.g ha.loc ha.tmp
   cases ho : ops[i]? with
   | none => rw [ho] at h; exact h.elim
   | some o =>
     rw [ho] at h
     simp only at h ⊢
     refine grdA_sound h he (fun h => ?_) (fun h => ?_)
     . refine opV_mono (opA_sound hf.g hf.st he h) fun v w' h2 => ?_
       obtain ⟨Z', ρ', T', es, a, k1, k2, k3, k4⟩ := h2
       refine putA_sound k4 k3 (ha.step k2) fun loc tmp lv tv hk hat => ⟨Agr Z' ρ' (keepT keep T') w', fun hr hc => ?_, planUA_sound r _ _ _ _ _ _ _ _ _ _ _ hk.2 (hf.step k1 k2) hat⟩
       exact ⟨agr_self (k1.keepT keep), agr_step k2 (hk.1.resolve_right (fun h => h.elim (fun h => by rw [hr] at h; cases h) hc))⟩
     . exact putA_sound h (.p _) ha fun loc tmp lv tv hk hat => planUA_sound r _ _ _ _ _ _ _ _ _ _ _ hk hf hat
 | .alt i r j s, ds, loc, tmp, dv, lv, tv, Z, ρ, T, w, E, h, hf, ha => by
   simp only [planUA, planOA] at h
   simp only [planU, planO]
   have he := evA_rel (n := n) (base := base) hf.g ha.loc ha.tmp
   refine ⟨?_, ?_⟩
   . have h := h.1
     cases ho : ops[i]? with
     | none => rw [ho] at h; exact h.elim
     | some o =>
       rw [ho] at h
       simp only at h ⊢
       refine grdA_sound h he (fun h => ?_) (fun h => ?_)
       . refine opV_mono (opA_sound hf.g hf.st he h) fun v w' h2 => ?_
         obtain ⟨Z', ρ', T', es, a, k1, k2, k3, k4⟩ := h2
         refine putA_sound k4 k3 (ha.step k2) fun loc tmp lv tv hk hat => ⟨Agr Z' ρ' (keepT keep T') w', ⟨agr_self (k1.keepT keep), agr_step k2 hk.1⟩, planUA_sound r _ _ _ _ _ _ _ _ _ _ _ hk.2 (hf.step k1 k2) hat⟩
       . exact putA_sound h (.p _) ha fun loc tmp lv tv hk hat => planUA_sound r _ _ _ _ _ _ _ _ _ _ _ hk hf hat
   . have h := h.2
     cases ho : ops[j]? with
     | none => rw [ho] at h; exact h.elim
     | some o =>
       rw [ho] at h
       simp only at h ⊢
       refine grdA_sound h he (fun h => ?_) (fun h => ?_)
       . refine opV_mono (opA_sound hf.g hf.st he h) fun v w' h2 => ?_
         obtain ⟨Z', ρ', T', es, a, k1, k2, k3, k4⟩ := h2
         refine putA_sound k4 k3 (ha.step k2) fun loc tmp lv tv hk hat => ⟨Agr Z' ρ' (keepT keep T') w', ⟨agr_self (k1.keepT keep), agr_step k2 hk.1⟩, planUA_sound s _ _ _ _ _ _ _ _ _ _ _ hk.2 (hf.step k1 k2) hat⟩
       . exact putA_sound h (.p _) ha fun loc tmp lv tv hk hat => planUA_sound s _ _ _ _ _ _ _ _ _ _ _ hk hf hat
 | .al3 i r j s k3 t, ds, loc, tmp, dv, lv, tv, Z, ρ, T, w, E, h, hf, ha => by
   simp only [planUA, planOA] at h
   simp only [planU, planO]
   have he := evA_rel (n := n) (base := base) hf.g ha.loc ha.tmp
   refine ⟨?_, ?_, ?_⟩
   . have h := h.1
     cases ho : ops[i]? with
     | none => rw [ho] at h; exact h.elim
     | some o =>
       rw [ho] at h
       simp only at h ⊢
       refine grdA_sound h he (fun h => ?_) (fun h => ?_)
       . refine opV_mono (opA_sound hf.g hf.st he h) fun v w' h2 => ?_
         obtain ⟨Z', ρ', T', es, a, k1, k2, k3, k4⟩ := h2
         refine putA_sound k4 k3 (ha.step k2) fun loc tmp lv tv hk hat => ⟨Agr Z' ρ' (keepT keep T') w', ⟨agr_self (k1.keepT keep), agr_step k2 hk.1⟩, planUA_sound r _ _ _ _ _ _ _ _ _ _ _ hk.2 (hf.step k1 k2) hat⟩
       . exact putA_sound h (.p _) ha fun loc tmp lv tv hk hat => planUA_sound r _ _ _ _ _ _ _ _ _ _ _ hk hf hat
   . have h := h.2.1
     cases ho : ops[j]? with
     | none => rw [ho] at h; exact h.elim
     | some o =>
       rw [ho] at h
       simp only at h ⊢
       refine grdA_sound h he (fun h => ?_) (fun h => ?_)
       . refine opV_mono (opA_sound hf.g hf.st he h) fun v w' h2 => ?_
         obtain ⟨Z', ρ', T', es, a, k1, k2, k3, k4⟩ := h2
         refine putA_sound k4 k3 (ha.step k2) fun loc tmp lv tv hk hat => ⟨Agr Z' ρ' (keepT keep T') w', ⟨agr_self (k1.keepT keep), agr_step k2 hk.1⟩, planUA_sound s _ _ _ _ _ _ _ _ _ _ _ hk.2 (hf.step k1 k2) hat⟩
       . exact putA_sound h (.p _) ha fun loc tmp lv tv hk hat => planUA_sound s _ _ _ _ _ _ _ _ _ _ _ hk hf hat
   . have h := h.2.2
     cases ho : ops[k3]? with
     | none => rw [ho] at h; exact h.elim
     | some o =>
       rw [ho] at h
       simp only at h ⊢
       refine grdA_sound h he (fun h => ?_) (fun h => ?_)
       . refine opV_mono (opA_sound hf.g hf.st he h) fun v w' h2 => ?_
         obtain ⟨Z', ρ', T', es, a, k1, k2, k3, k4⟩ := h2
         refine putA_sound k4 k3 (ha.step k2) fun loc tmp lv tv hk hat => ⟨Agr Z' ρ' (keepT keep T') w', ⟨agr_self (k1.keepT keep), agr_step k2 hk.1⟩, planUA_sound t _ _ _ _ _ _ _ _ _ _ _ hk.2 (hf.step k1 k2) hat⟩
       . exact putA_sound h (.p _) ha fun loc tmp lv tv hk hat => planUA_sound t _ _ _ _ _ _ _ _ _ _ _ hk hf hat
theorem SemA.drawU0 {id : Nat} {ops : Array Oper} (cl : Nat) (oc : Option Nat) (keep : Nat -> Bool) (pl : PU) (hm : P.follows .mixedOrders = true)
 (hok : (Region.noSelect ops && noDefer ops && ops.toList.all (dstIn m) && pl.len == ops.size && planOKU ops cl oc pl (Array.replicate ops.size false)) = true)
 (h : planUA P G N n ops.toList oc keep ds pl loc [] T E Nk) : SemA P G N ro n m (.region id ops true) ds loc tmp T E Nk X R := by
 simp only [Bool.and_eq_true, beq_iff_eq] at hok
 obtain ⟨⟨⟨⟨h1, h0⟩, h2⟩, h3⟩, h4⟩ := hok
 intro Z0 ρ0 T0 w0 Z ρ w dv lv tv hN hf ha
 refine SemV.cleared ?_
 intro a haa Qs hQs
 refine wpIn_mono (Q := fun e a w => ∃ dv lv tv, Fits' n m dv lv tv a /\ mkQ (LK G Z0 ρ0 T0 w0 Nk) (fun i => LK G Z0 ρ0 T0 w0 (X i)) (LK G Z0 ρ0 T0 w0 R) e dv lv tv w) ?_ (fun e a w ⟨ds, loc, tmp, hf, hq⟩ => hQs _ _ _ _ _ _ hf hq)
 have hdr : Alike { w with drawn := w.drawn + 1 } w := ⟨rfl, rfl, rfl⟩
 have hf' := hf.same hdr
 subst hN
 refine wpIn_region_any hm (AnyI.any (cl := cl) (I := Agr Z ρ (keepT keep T) { w with drawn := w.drawn + 1 }) _ _ _ _ ?_)
 have := planU_any (P := P) (cl := cl) (oc := oc) (ro := ro) (Q := fun e a w => ∃ dv lv tv, Fits' n m dv lv tv a /\ mkQ (LK G Z0 ρ0 T0 w0 Nk) (fun i => LK G Z0 ρ0 T0 w0 (X i)) (LK G Z0 ρ0 T0 w0 R) e dv lv tv w) (l := ops.toList) (K := LK G Z0 ρ0 T0 w0 Nk) (by simpa using h1) (by simpa using h0) (fun c a a' w ⟨ds, loc, tmp, _, hq⟩ => hq.elim) h2 pl
  (Array.replicate ops.size false) (Agr Z ρ (keepT keep T) { w with drawn := w.drawn + 1 }) lv [] { w with drawn := w.drawn + 1 } a (planUA_sound pl ds loc [] dv lv [] Z ρ T _ E h hf' ha.clear) (by simpa using h4) (fun _ => agr_self (hf'.st.keepT keep)) haa.clear haa.size haa.defers
  (fun loc tmp w a h1 h2 h3 hk => ⟨dv, loc, tmp, ⟨⟨_, h1⟩, h2, h3⟩, hk⟩)
 rw [h3] at this
 simpa using this
theorem SemA.drawU {id : Nat} {ops : Array Oper} (L : List (Nat × AV)) (Tb : Tbl) (Ei : Eff) (cl : Nat) (keep : Nat -> Bool) (pl : PU) (hm : P.follows .mixedOrders = true)
 (hok : (Region.noSelect ops && noDefer ops && ops.toList.all (dstIn m) && pl.len == ops.size && planOKU ops cl (some cl) pl (Array.replicate ops.size false)) = true)
 (h : planUA P G N n ops.toList (some cl) keep ds pl loc [] T E (fun ds' loc' _ T' E' => SeeL G N n ds' loc' T' E' ds L Tb Ei)) (next : ∀ g tmp, Nk ds (mkA g L 0 n) tmp Tb Ei) : SemA P G N ro n m (.region id ops true) ds loc tmp T E Nk X R := by
 have h0 := SemA.drawU0 (ro := ro) (X := X) (R := R) (tmp := tmp) (id := id) cl (some cl) keep pl hm hok h
 intro Z0 ρ0 T0 w0 Z ρ w dv lv tv hN hf ha
 refine (h0 Z0 ρ0 T0 w0 Z ρ w dv lv tv hN hf ha).mono fun e dv lv tv w hq => ?_
 cases e with
 | normal =>
   obtain ⟨Z1, ρ1, T1, E1, ds1, loc1, tmp1, g1, g2, g3, g4, hv⟩ := hq
   obtain ⟨Z2, ρ2, loc2, k1, k2, k3⟩ := hv Z0 ρ0 T0 w0 Z1 ρ1 w dv lv hN g1 ⟨g2, g3, .nil⟩
   obtain ⟨g, rfl⟩ := k3.elim
   exact ⟨Z2, ρ2, Tb, Ei, ds, _, _, k1, k2.ds, k2.loc, RelT.all tv, next g _⟩
 | exit i => exact hq
 | ret => exact hq
 | _ => exact hq.elim
theorem vpu :
 (∀ (P : Program) (G : Nat -> AV) (N n : Nat) (ops : List Oper) (cl : Option Nat) (keep : Nat -> Bool) (ds : List AV) (loc : List AV) (tmp : List (Nat × AV)) (T : Tbl) (E : Eff) (K : AKont), planUA P G N n ops cl keep ds .nil loc tmp T E K = K ds loc tmp T E) /\
 (∀ (P : Program) (G : Nat -> AV) (N n : Nat) (ops : List Oper) (cl : Option Nat) (keep : Nat -> Bool) (ds : List AV) (loc : List AV) (tmp : List (Nat × AV)) (T : Tbl) (E : Eff) (K : AKont) (i : Nat) (r : PU), planUA P G N n ops cl keep ds (.st i true r) loc tmp T E K = (planOA ops ops[i]? (evA G n loc tmp)
     (fun o => rdA P (evA G n loc tmp) o.op o.type (keepT keep T) fun v => putA n o.dst v loc tmp fun loc tmp => planUA P G N n ops cl keep ds r loc tmp T E K)
     (fun o => putA n o.dst (.p undef) loc tmp fun loc tmp => planUA P G N n ops cl keep ds r loc tmp T E K))) /\
 (∀ (P : Program) (G : Nat -> AV) (N n : Nat) (ops : List Oper) (cl : Option Nat) (keep : Nat -> Bool) (ds : List AV) (loc : List AV) (tmp : List (Nat × AV)) (T : Tbl) (E : Eff) (K : AKont) (i : Nat) (r : PU), planUA P G N n ops cl keep ds (.st i false r) loc tmp T E K = (planOA ops ops[i]? (evA G n loc tmp)
     (fun o => opA P G (evA G n loc tmp) o.op o.type T fun v T' es => putA n o.dst v (slots es loc) (slotsT es tmp) fun loc tmp => (keepOK keep es = true ∨ r.isNil = true ∨ some i = cl) /\ planUA P G N n ops cl keep (slots es ds) r loc tmp T' (recE N es E) K)
     (fun o => putA n o.dst (.p undef) loc tmp fun loc tmp => planUA P G N n ops cl keep ds r loc tmp T E K))) /\
 (∀ (P : Program) (G : Nat -> AV) (N n : Nat) (ops : List Oper) (cl : Option Nat) (keep : Nat -> Bool) (ds : List AV) (loc : List AV) (tmp : List (Nat × AV)) (T : Tbl) (E : Eff) (K : AKont) (i : Nat) (r : PU) (j : Nat) (s : PU), planUA P G N n ops cl keep ds (.alt i r j s) loc tmp T E K = (planOA ops ops[i]? (evA G n loc tmp)
     (fun o => opA P G (evA G n loc tmp) o.op o.type T fun v T' es => putA n o.dst v (slots es loc) (slotsT es tmp) fun loc tmp => (keepOK keep es = true) /\ planUA P G N n ops cl keep (slots es ds) r loc tmp T' (recE N es E) K)
     (fun o => putA n o.dst (.p undef) loc tmp fun loc tmp => planUA P G N n ops cl keep ds r loc tmp T E K) /\
  planOA ops ops[j]? (evA G n loc tmp)
   (fun o => opA P G (evA G n loc tmp) o.op o.type T fun v T' es => putA n o.dst v (slots es loc) (slotsT es tmp) fun loc tmp => (keepOK keep es = true) /\ planUA P G N n ops cl keep (slots es ds) s loc tmp T' (recE N es E) K)
   (fun o => putA n o.dst (.p undef) loc tmp fun loc tmp => planUA P G N n ops cl keep ds s loc tmp T E K))) /\
  (∀ (P : Program) (G : Nat -> AV) (N n : Nat) (ops : List Oper) (cl : Option Nat) (keep : Nat -> Bool) (ds : List AV) (loc : List AV) (tmp : List (Nat × AV)) (T : Tbl) (E : Eff) (K : AKont) (i : Nat) (r : PU) (j : Nat) (s : PU) (k : Nat) (t : PU), planUA P G N n ops cl keep ds (.al3 i r j s k t) loc tmp T E K = (planOA ops ops[i]? (evA G n loc tmp)
   (fun o => opA P G (evA G n loc tmp) o.op o.type T fun v T' es => putA n o.dst v (slots es loc) (slotsT es tmp) fun loc tmp => (keepOK keep es = true) /\ planUA P G N n ops cl keep (slots es ds) r loc tmp T' (recE N es E) K)
   (fun o => putA n o.dst (.p undef) loc tmp fun loc tmp => planUA P G N n ops cl keep ds r loc tmp T E K) /\
  planOA ops ops[j]? (evA G n loc tmp)
   (fun o => opA P G (evA G n loc tmp) o.op o.type T fun v T' es => putA n o.dst v (slots es loc) (slotsT es tmp) fun loc tmp => (keepOK keep es = true) /\ planUA P G N n ops cl keep (slots es ds) s loc tmp T' (recE N es E) K)
   (fun o => putA n o.dst (.p undef) loc tmp fun loc tmp => planUA P G N n ops cl keep ds s loc tmp T E K) /\
  planOA ops ops[k]? (evA G n loc tmp)
   (fun o => opA P G (evA G n loc tmp) o.op o.type T fun v T' es => putA n o.dst v (slots es loc) (slotsT es tmp) fun loc tmp => (keepOK keep es = true) /\ planUA P G N n ops cl keep (slots es ds) t loc tmp T' (recE N es E) K)
   (fun o => putA n o.dst (.p undef) loc tmp fun loc tmp => planUA P G N n ops cl keep ds t loc tmp T E K))) /\ (PU.nil.isNil = true) /\ (∀ i b r, (PU.st i b r).isNil = false) /\ (∀ i r j s, (PU.alt i r j s).isNil = false) /\ (∀ i r j s k t, (PU.al3 i r j s k t).isNil = false) :=
 ⟨fun _ _ _ _ _ _ _ _ _ _ _ _ _ => rfl, fun _ _ _ _ _ _ _ _ _ _ _ _ _ _ _ => rfl, fun _ _ _ _ _ _ _ _ _ _ _ _ _ _ _ => rfl, fun _ _ _ _ _ _ _ _ _ _ _ _ _ _ _ _ _ => rfl, fun _ _ _ _ _ _ _ _ _ _ _ _ _ _ _ _ _ _ _ => rfl, rfl, fun _ _ _ => rfl, fun _ _ _ _ => rfl, fun _ _ _ _ _ _ => rfl⟩
end
end Go.E
namespace Go.Proofs.YtmcbdlefakjpoaaGreatDoor
open Go.E Go.Proofs.YtmcbdlefakjpoaaGreatDoor.Tryz Go.Proofs.Tryz
abbrev Plc := List UInt8 × UInt32
def pcs (p : Plc) : List AV := plc p.1 p.2
def P32 (l : List Plc) : Prop := ∀ p ∈ l, p.1.length = 32
theorem pcs_len {l : List Plc} (h : P32 l) : ∀ p ∈ l, (pcs p).length = 33 := fun p hp => by rw [pcs, List.length_append, List.length_map, h p hp]; rfl
theorem pcs_wo (q : Nat -> Bool) (p : Plc) : (pcs p).map (AV.wo q) = pcs p := by rw [pcs, List.map_append, wb8]; simp only [List.map_cons, List.map_nil, w32, AV.wo, plc]
theorem pcs_pub (i : Nat) (cs : List AV) (p : Plc) : (pcs p).map (AV.pub i cs) = pcs p := by rw [pcs, List.map_append, pb8]; simp only [List.map_cons, List.map_nil, w32, AV.pub, plc]
theorem pcs_wof (q : Nat -> Bool) (l : List Plc) : (l.flatMap pcs).map (AV.wo q) = l.flatMap pcs := by
 induction l with
 | nil => rfl
 | cons p r ih => rw [List.flatMap_cons, List.map_append, pcs_wo, ih]
theorem pcs_clean (l : List Plc) : ∀ a ∈ l.flatMap pcs, a.Clean := by
 intro a ha
 obtain ⟨p, _, ha⟩ := List.mem_flatMap.1 ha
 rcases List.mem_append.1 ha with ha | ha
 . exact clean8 _ a ha
 . rw [List.mem_singleton.1 ha]; exact .p _
theorem w64_clean (l : List UInt64) : ∀ a ∈ l.map w64, a.Clean := by
 intro a ha; obtain ⟨x, _, rfl⟩ := List.mem_map.1 ha; exact .p _
theorem onesp {p : Plc} : ones (pcs p) = true := by
 have h := vh.2.2.2.2.2 p.1
 rw [ones] at h
 rw [pcs, ones, List.all_append, h]; rfl
theorem zp33 : [oB, oB, oB, oB, oB, oB, oB, oB, oB, oB, oB, oB, oB, oB, oB, oB, oB, oB, oB, oB, oB, oB, oB, oB, oB, oB, oB, oB, oB, oB, oB, oB, oW] = pcs (h0b, 0) := rfl
theorem pcs_l {p : Plc} (h : p.1.length = 32) : (pcs p).length = 33 := by rw [pcs, List.length_append, List.length_map, h]; rfl
theorem pcs_wr {x : List UInt8} (h : x.length = 32) : wrA (pcs (h0b, 0)) 0 (x.map by8) = pcs (x, 0) := by
 rw [wrA_eq (by rw [pcs_l (p := (h0b, 0)) rfl, List.length_map, h]; decide), List.length_map, h]
 rfl
theorem pcs_set {x : List UInt8} (h : x.length = 32) (n m : UInt32) : (pcs (x, n)).set 32 (.p (.int .u32 (m.toNat : Int))) = pcs (x, m) := by
 rw [pcs, plc, List.set_append_right _ _ (by rw [List.length_map, h]; exact Nat.le_refl _), List.length_map, h]
 rfl
def ThereV (v : AV) : Prop := ∃ (ps : List Plc) (vals : List UInt64), ps.length = vals.length /\ P32 ps /\ ps.length <= 100000000000 /\ v = .tu [.vs (ps.flatMap pcs) ps.length, .vs (vals.map w64) vals.length]
theorem there15_ok {T : Tbl} {a : AV} {l : List Blk} (hb : Es T 69 Blk.cs a l) (hok : ∀ b ∈ l, BlkT T b) (hl : l.length <= 1000) : CallA prog G 44 [a] T fun v T' es => ThereV v /\ T' = T /\ es = [] := by
 refine CallA.wfs fun wf => ?_
 have wt := wf.t
 have wp := wf.p
 have wa := wf.arg a (by simp)
 have hall : ∀ s ∈ allS 0 l, s.t.Ok := allS_ok l 0 fun b hb => (hok b hb).ok
 have hSl := allS_len l 0 fun b hb => (hok b hb).l
 refine CallA.eV 44 func44 ntmps44 results44 ?_
 simp -dsimp +decide only [vp0, en, ↓reduceIte, Nat.reduceSub]
 refine (all15_ok hb hok hl).det' ?_
 obtain ⟨S, hS⟩ : ∃ S, S = allS 0 l := ⟨_, rfl⟩
 rw [<- hS] at hall hSl ⊢
 have hSl2 : S.length <= 1000000 := by omega
 have hbS : ∀ X : Tbl, Es X 38 Stn.cs (.vs (S.flatMap Stn.cs) S.length) S := fun X => Es.vs fun s _ => s.cs_len
 have hsr := Sl.rules (hbS T).sl (by decide)
 simp -dsimp +decide (disch := omega) only [va, ↓reduceIte]
 refine SemA.adopt 5 65 33 (by decide) rfl ?_
 refine SemA.adopt 6 69 1 (by decide) rfl ?_
 simp -dsimp +decide only [vp0]
 refine SemA.loopK (T.length + 2) (fun s : Nat × List Plc × List UInt64 => [(0, a), (4, .vs (S.flatMap Stn.cs) S.length), (5, .sl T.length 0 s.2.1.length), (6, .sl (T.length + 1) 0 s.2.2.length), (7, wint (s.1 : Int))]) (fun s => T ++ [.buf 65 33 (s.2.1.flatMap pcs), .buf 69 1 (s.2.2.map w64)]) (fun s => s.1 <= S.length /\ s.2.1.length = s.2.2.length /\ P32 s.2.1 /\ s.2.1.length <= s.1 * 100000) (fun s => S.length - s.1) (0, [], []) [] 0 (fun s : List Plc × List UInt64 => [(5, .sl T.length 0 s.1.length), (6, .sl (T.length + 1) 0 s.2.length)]) (fun s => T ++ [.buf 65 33 (s.1.flatMap pcs), .buf 69 1 (s.2.map w64)]) (fun s => s.1.length = s.2.length /\ P32 s.1 /\ s.1.length <= 100000000000) (by omega) ⟨by dsimp only; omega, rfl, (fun _ h => nomatch h), by simp⟩ (by (try (simp -dsimp +decide (disch := omega) only [vq, Nat.reduceAdd, ci])); first | done | (and_intros <;> first | with_reducible rfl | rfl) | rfl) rfl (by simp) ?_ ?_
 . rintro ⟨i, ps, vals⟩ g ⟨hi, hle, h32, hpl⟩
   dsimp only at hi hle h32 hpl
   refine SemA.o ?_
   simp -dsimp +decide (disch := omega) only [vq, ty, ↓reduceIte, Nat.reduceAdd, hsr]
   refine CondP.dec (fun hc => ?_) (fun hc => ?_)
   . obtain ⟨s, hs⟩ : ∃ s, S[i]? = some s := ⟨S[i]'(by omega), by simp⟩
     have hto := hall s (List.mem_of_getElem? hs)
     have hol := hto.ol
     have hne : 0 < S.length := by omega
     have hfd := fun j k (K : AV -> Prop) => Sl.fld (K := K) (hbS T).sl hne j k
     have hoa : (S.flatMap Stn.cs)[i * 38 + 36]? = some s.t.oa := by rw [flat_cell (fun s _ => s.cs_len) hs (by decide), Stn.get s 2]; rfl
     have hln := fun (Y : Tbl) s2 K => ((hto.o.es Y).sl).ln (K := K) s2
     have hlsl := Sl.loads (hbS T).sl (P := prog) (t := 61) (by (simp -dsimp +decide only []))
     simp -dsimp +decide (disch := omega) only [va, ↓reduceIte]
     refine SemA.loopK (T.length + 2) (fun s2 : Nat × List Plc × List UInt64 => [(0, a), (4, .vs (S.flatMap Stn.cs) S.length), (5, .sl T.length 0 s2.2.1.length), (6, .sl (T.length + 1) 0 s2.2.2.length), (7, wint (i : Int)), (8, wint (s2.1 : Int))]) (fun s => T ++ [.buf 65 33 (s.2.1.flatMap pcs), .buf 69 1 (s.2.2.map w64)]) (fun s2 => s2.1 <= s.t.outs.length /\ s2.2.1.length = s2.2.2.length /\ P32 s2.2.1 /\ s2.2.1.length <= i * 100000 + s2.1) (fun s2 => s.t.outs.length - s2.1) (0, ps, vals) [] 2 (fun s2 : List Plc × List UInt64 => [(0, a), (4, .vs (S.flatMap Stn.cs) S.length), (5, .sl T.length 0 s2.1.length), (6, .sl (T.length + 1) 0 s2.2.length), (7, wint (i : Int))]) (fun s => T ++ [.buf 65 33 (s.1.flatMap pcs), .buf 69 1 (s.2.map w64)]) (fun s2 => s2.1.length = s2.2.length /\ P32 s2.1 /\ s2.1.length <= i * 100000 + s.t.outs.length) (by omega) ⟨Nat.zero_le _, hle, h32, Nat.le_trans hpl (Nat.le_add_right _ _)⟩ (by (try (simp -dsimp +decide (disch := omega) only [vq, Nat.reduceAdd, ci])); first | done | (and_intros <;> first | with_reducible rfl | rfl) | rfl) rfl (by simp) ?_ ?_
     . rintro ⟨k, ps, vals⟩ g ⟨hk, hle, h32, hpl⟩
       dsimp only at hk hle h32 hpl
       have hfp := flat_len (f := pcs) (pcs_len h32)
       refine SemA.o ?_
       simp -dsimp +decide (disch := omega) only [vq, ty, ↓reduceIte, Nat.reduceAdd, hsr, hfd, hlsl, hoa, hln]
       refine ⟨by omega, CondP.dec (fun h2 => ?_) (fun h2 => ?_)⟩
       . obtain ⟨o, ho⟩ : ∃ o, s.t.outs[k]? = some o := ⟨s.t.outs[k]'(by omega), by simp⟩
         have hlid := fun (Y : Tbl) (K : AV -> Prop) => (show loadA prog 33 ((AV.vs (S.flatMap Stn.cs) S.length).pl (i * 38 + 2)) Y K = K (.ag (s.t.id.map by8)) by
          have hts : tsz prog 33 = 32 := by (simp -dsimp +decide only [])
          have h3 := (hbS Y).sl.lds (K := K) (P := prog) (t := 33) (by (simp -dsimp +decide only [])) (i * 38 + 2) (by rw [hts]; decide) (by rw [hts]; omega)
          rw [h3, hts]
          have h4 := flat_at (hbS Y).wd hs
          rw [show List.take 32 (List.drop (i * 38 + 2) (S.flatMap Stn.cs)) = List.take 32 (List.drop 2 s.cs) by rw [<- h4, List.drop_take, List.take_take, List.drop_drop]; rfl, Stn.idc])
         have hid := s.t.id_len
         have q1 := pcs_wr hid
         have q2 := fun n m => pcs_set hid n m
         have q3 := fun n => pcs_l (p := (s.t.id, n)) hid
         have q4 : ∀ n, wrA (pcs (h0b, 0)) 0 (pcs (s.t.id, n)) = pcs (s.t.id, n) := fun n => wrA_all (by rw [q3, pcs_l rfl])
         have q5 : ∀ n, List.take 33 (pcs (s.t.id, n)) = pcs (s.t.id, n) := fun n => List.take_of_length_le (by rw [q3]; exact Nat.le_refl _)
         have q6 := @onesp
         simp -dsimp +decide (disch := omega) only [vr, ty, en, ↓reduceIte, Nat.reduceAdd, Nat.reduceLT, hsr, hfd, hlid, hid, zp33, q1, q2, q3, q4, q5, q6]
         refine ⟨⟨by omega, by omega⟩, (from15_ok (hbS _) hall hSl2 hid).mono ?_⟩
         rintro v T' es ⟨⟨b, rfl⟩, rfl, rfl⟩
         cases b with
         | true =>
           simp -dsimp +decide (disch := omega) only [vt2, vze, vq, ↓reduceIte, Nat.reduceAdd, vi, vt, wt, wa, pcs_wof, pcs_wo]
           exact ⟨(k + 1, ps, vals), ⟨⟨by dsimp only; omega, hle, h32, by dsimp only; omega⟩, by dsimp only; omega⟩, ⟨rfl, rfl, rfl⟩, rfl⟩
         | false =>
           have hldv := fun (Y : Tbl) (K : AV -> Prop) => (show loadA prog 69 (s.t.oa.pl (k * 2)) Y K = K (w64 o.value) by
            rw [((hto.o.es Y).sl).ld (P := prog) (t := 69) (by (simp -dsimp +decide only [])) (k * 2) (by omega), show (s.t.outs.flatMap TOut.cs)[k * 2]? = (s.t.outs.flatMap TOut.cs)[k * 2 + 0]? from rfl, flat_cell (hto.o.es Y).wd ho (by decide)]
            rfl)
           have hixo := fun (Y : Tbl) (ik : IntKind) (z : Int) (K : AV -> Prop) => (hto.o.es Y).sl.ix (K := K) (by decide) ik z
           have hfo := fun j k (K : AV -> Prop) => Sl.fld (K := K) (hto.o.es T).sl (show 0 < s.t.outs.length by omega) j k
           simp -dsimp +decide (disch := omega) only [vt2, vze, vq, ty, ↓reduceIte, Nat.reduceAdd, Nat.reduceMul, vi, vt, hsr, hfd, hlsl, hoa, hldv, hixo, hfo, hfp, zp33, q3, q4, q5, q6, rep1, wt, wa, pcs_wof, pcs_wo]
           refine ⟨⟨by omega, by omega⟩, ⟨by omega, by omega⟩, ⟨by omega, by omega⟩, ⟨by omega, by omega⟩, (k + 1, ps ++ [(s.t.id, UInt32.ofInt (k : Int))], vals ++ [o.value]), ⟨⟨by dsimp only; omega, by simp [hle], ?_, ?_⟩, by dsimp only; omega⟩, ⟨by simp, by simp, rfl⟩, by simp⟩
           . intro p hp
             rcases List.mem_append.1 hp with hp | hp
             . exact h32 p hp
             . rw [List.mem_singleton.1 hp]; exact hid
           . simp only [List.length_append, List.length_cons, List.length_nil]; omega
       . simp -dsimp +decide (disch := omega) only [vt2, vze, vq, ↓reduceIte, Nat.reduceAdd, vt, wt, wa, pcs_wof]
         exact ⟨(ps, vals), ⟨hle, h32, by dsimp only; omega⟩, ⟨rfl, rfl⟩, rfl⟩
     . rintro ⟨ps, vals⟩ g tmp ⟨hle, h32, hpl⟩
       simp -dsimp +decide (disch := omega) only [vt2, vze, vq, ↓reduceIte, Nat.reduceAdd, vi, vt, wt, wa, pcs_wof]
       exact ⟨(i + 1, ps, vals), ⟨⟨by dsimp only; omega, hle, h32, by dsimp only at hpl ⊢; omega⟩, by dsimp only; omega⟩, ⟨rfl, rfl, rfl⟩, rfl⟩
   . simp -dsimp +decide (disch := omega) only [vt2, vze, vq, ↓reduceIte, Nat.reduceAdd, vt, wt, wa, pcs_wof]
     exact ⟨(ps, vals), ⟨hle, h32, by dsimp only; omega⟩, ⟨rfl, rfl⟩, rfl⟩
 . rintro ⟨ps, vals⟩ g tmp ⟨hle, h32, hpl⟩
   simp -dsimp +decide (disch := omega) only [vp0, ↓reduceIte, Nat.reduceAdd]
   refine Vw.pub T.length (o := .buf 65 33 (ps.flatMap pcs)) (gn0 T _ _) rfl (pcs_clean _) ?_
   simp -dsimp +decide only [va, vl, ↓reduceIte, wp]
   refine Vw.pub (T.length + 1) (o := .buf 69 1 (vals.map w64)) (gn1 T _ _ _) rfl (w64_clean _) ?_
   simp -dsimp +decide only [va, vl, ↓reduceIte, wp]
   exact Vw.cut ⟨⟨ps, vals, hle, h32, hpl, rfl⟩, rfl, rfl⟩
end Go.Proofs.YtmcbdlefakjpoaaGreatDoor
