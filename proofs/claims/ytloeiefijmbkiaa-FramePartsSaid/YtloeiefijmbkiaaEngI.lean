/-
  THE ENGINE, PART I: a law's arguments, as facts; its contract, of a walk. Over any program. No condition.
-/
import Derived.Test.YtloeiefijmbkiaaEngH
import Derived.WideKeyArgs
import Derived.ProofKit
import Derived.OpenShut
import Derived.Deep.SlicePairs
import Derived.JoinedCond
import Derived.SizedLaws
set_option linter.unusedSimpArgs false
set_option linter.unusedVariables false
set_option linter.unusedSectionVars false
namespace Go.E
open Go.ChangeShapes Go.WideShapes Go.ChangeAt Go.RowKit

section
variable {P : Program} {w W W' : World} {O : List Res} {L : List Fact} {a : Option Addr} {vs : List Value}
/-- what lay there when the call began lies there for ever -/
theorem arr_holds {Γ : Heap} (hw : (whole W).holds Γ) (hr : Rd W a vs) : (arr a vs).holds Γ := by
  rcases hr with rfl | ⟨p, rfl, h1, h2⟩
  · exact .inl rfl
  · by_cases hv : vs = []
    · exact .inl hv
    · refine .inr ?_
      have h0 : ∃ c T fr, W.heap[p.block]? = some (.cells c T fr) := by
        obtain ⟨v, hv⟩ : ∃ v, vs[0]? = some v := by
          cases vs with
          | nil => exact absurd rfl hv
          | cons v _ => exact ⟨v, rfl⟩
        have := h2 0 v hv
        rw [add_plain h1] at this
        unfold World.cell? at this
        simp only at this
        split at this
        · rename_i c T fr hc; exact ⟨c, T, fr, hc⟩
        · cases this
      obtain ⟨c, T, fr, hc⟩ := h0
      refine ⟨p, c, T, fr, rfl, h1, hw.1 _ _ hc, fun k v hk => ?_⟩
      have := h2 k v hk
      rw [add_plain h1] at this
      simpa [World.cell?, hc] using this
theorem Ctx.arr_of (h : Ctx w O L) (hw : whole W ∈ L) (hr : Rd W a vs) : Ctx w O (arr a vs :: L) := h.add fun _ _ hL => arr_holds (hL _ hw) hr
theorem Ctx.all_of {ι : Type} (p : ι → Prop) (A : ι → Option Addr) (V : ι → List Value) (h : Ctx w O L) (hw : whole W ∈ L) (hr : ∀ i, p i → Rd W (A i) (V i)) : Ctx w O (allF p (fun i => arr (A i) (V i)) :: L) :=
  h.add fun _ _ hL i hi => arr_holds (hL _ hw) (hr i hi)
theorem Rdb.of_all {ι : Type} {p : ι → Prop} {A : ι → Option Addr} {V : ι → List Value} (hm : allF p (fun i => arr (A i) (V i)) ∈ L) {i : ι} (hi : p i) : Rdb O L (A i) (V i) := fun _ _ hs hc =>
  (hc.add (φ := arr (A i) (V i)) fun _ _ hL => hL _ (hs _ hm) i hi).rd mem0

theorem sameAt_of (h : Ctx W' O L) (hw : whole W ∈ L) {p : MemPlace} (hp : p.block < W.heap.size) : W.sameAt W' p := by
  have hb := (h.whole_grown hw).1 p.block hp
  cases p with
  | cell b o => exact World.cell?_of_block (w := W) hb
  | map b => exact hb

theorem kept_of (h : Ctx W' O L) (hw : whole W ∈ L) (may : MemPlace → Prop) : W.keptBut W' may := by
  obtain ⟨hb, _, h1, h2⟩ := h.whole_grown hw
  refine ⟨h1, h2, fun i hi => ?_⟩
  rw [hb i hi]
  split <;> simp_all

variable {H : Type} {enc : TypeId × Value → H}
theorem trodAll_stays (hl : laidOutB P = true) {sp : Nat → Bool} : ∀ {ts : List TypeId} {vs : List Value} {ds : List (DataW H)} {ps : List MemPlace}, (ts.all fun t => P.readableRec t && decide (t < P.types.size)) = true →
    DataW.TrodAll enc P W 0 (fun _ => true) true ts vs ds ps → (∀ p ∈ ps, W.sameAt W' p) → (∀ p ∈ ps, sp p.block = true) → DataW.TrodAll enc P W' 0 sp true ts vs ds ps
  | [], vs, ds, ps, _, h, _, _ => by obtain ⟨rfl, rfl, rfl⟩ := trodAll_nil h; exact trodAll_mk0
  | t :: ts, vs, ds, ps, hr, h, hs, hp => by
    obtain ⟨v, vs', d, ds', p, q, rfl, rfl, rfl, h0, r0⟩ := trodAll_cons h
    simp only [List.all_cons, Bool.and_eq_true, decide_eq_true_eq] at hr
    exact trodAll_cons_mk (WideElems.Trod_stays hl hr.1.1 hr.1.2 h0 (fun x hx => hs x (by simp [hx])) (fun x hx => hp x (by simp [hx])))
      (trodAll_stays hl hr.2 r0 (fun x hx => hs x (by simp [hx])) (fun x hx => hp x (by simp [hx])))

/-- A LAW's CONTRACT: the walk shows that it returns true and leaves all as it was -/
theorem law_post {f : Func} {s : ChangeSpec} {args : Array Value} {ds gs : List (DataW H)} {before : List MemPlace} (tb : TypeId) (hl : laidOutB P = true) (hr : (f.params.toList.all fun t => P.readableRec t && decide (t < P.types.size)) = true)
    (hres : f.resultTypes = #[tb]) (htb : P.underlying tb = some .bool) (hvars : s.vars = []) (hfn : s.fn H (ds ++ gs) = { results := [.lit (.bool true)], args := ds })
    (hW : DataW.Whole enc P f.params.toList s.vars false W args.toList ds gs before) (h : Ctx W' O L) (hw : whole W ∈ L) : s.post enc P f false true false false W args (.bool true) W' := by
  have hlt : ∀ p ∈ before, p.block < W.heap.size := fun p hp => hW.lt p hp
  have hW' := hW
  obtain ⟨p, q, hA, hV, rfl, hz, hn⟩ := hW
  rw [hvars] at hV
  obtain ⟨rfl, rfl⟩ := trodVars_none hV
  refine ⟨ds, [], p ++ [], [], p, [], hW', ?_, ?_, ?_, kept_of h hw _, fun h => by cases h⟩
  · rw [hfn, hres]
    exact trodAll_cons_mk (shut_bool htb _) trodAll_mk0
  · rw [hfn]
    exact trodAll_stays hl hr hA (fun x hx => sameAt_of h hw (hlt x (by simp [hx]))) (fun x hx => by simpa using hlt x (by simp [hx]))
  · rw [hfn, hvars]
    rfl
theorem law_calls {f : FuncId} {fn : Func} {s : ChangeSpec} {args : Array Value} {ds gs : List (DataW H)} {before : List MemPlace} (tb : TypeId) (hl : laidOutB P = true) (hr : (fn.params.toList.all fun t => P.readableRec t && decide (t < P.types.size)) = true)
    (hres : fn.resultTypes = #[tb]) (htb : P.underlying tb = some .bool) (hvars : s.vars = []) (hfn : s.fn H (ds ++ gs) = { results := [.lit (.bool true)], args := ds })
    (hW : DataW.Whole enc P fn.params.toList s.vars false W args.toList ds gs before) (h : Ret P f args W fun v w' => v = .bool true ∧ ∃ O L, Ctx w' O L ∧ whole W ∈ L) :
    Calls P f args W fun e W' => ∃ v, e = .returned v ∧ s.post enc P fn false true false false W args v W' := by
  refine Calls.mono h fun e W' ⟨v, he, hv, O, L, hc, hw⟩ => ⟨v, he, ?_⟩
  subst hv
  exact law_post tb hl hr hres htb hvars hfn hW hc hw
/-! ### Arguments opened -/
theorem u8_list : ∀ (zs : List Int), (∀ n ∈ zs, (Lit.int .u8 n).wf = true) → ∃ l : List UInt8, l.length = zs.length ∧ l.map bv = zs.map (Value.int .u8)
  | [], _ => ⟨[], rfl, rfl⟩
  | z :: zs, h => by
    obtain ⟨l, h1, h2⟩ := u8_list zs fun n hn => h n (by simp [hn])
    have hz : 0 ≤ z ∧ z ≤ 255 := by simpa [Lit.wf, IntKind.min, IntKind.max, IntKind.signed, IntKind.bits] using h z (by simp)
    refine ⟨UInt8.ofNat z.toNat :: l, by simp [h1], ?_⟩
    simp only [List.map_cons, h2, bv]
    congr 2
    have : (UInt8.ofNat z.toNat).toNat = z.toNat := by
      rw [UInt8.toNat_ofNat']
      omega
    rw [this]
    omega
theorem spot_none {a : Addr} {v : Value} (h : W.cell? a = some v) : a.spot = none := by
  unfold World.cell? at h
  split at h
  · split at h
    · cases h
    · rename_i hs; simpa using hs
  · cases h
theorem open_bytes {t e : TypeId} {fuel : Nat} {base : Nat} {spare : Nat → Bool} {held : Bool} {cs : List Value} {x : DataW H × List MemPlace} (ht : P.underlying t = some (.slice e)) (he : P.underlying e = some (.int .u8)) (hc : P.cellsOf e = 1)
    (h : DataW.trod enc P W base spare held fuel t cs = some x) : ∃ (a : Option Addr) (c : Nat) (l : List UInt8), cs = [.slice a l.length c] ∧ l.length ≤ c ∧ c ≤ maxLen ∧ Rd W a (l.map bv) ∧
      (x.1 = .nil ∧ l = [] ∨ ∃ E S, x.1 = .slice E S ∧ E.length = l.length) := by
  rcases open_ints ht he hc h with ⟨rfl, rfl⟩ | ⟨a, len, cap, zs, rfl, _, hl, hm, hz, rfl, hcell, hwf⟩
  · exact ⟨none, 0, [], rfl, Nat.le_refl _, by simp [maxLen], .inl rfl, .inl ⟨rfl, rfl⟩⟩
  · have hzl : len ≤ zs.length := by rw [hz]; split <;> omega
    obtain ⟨l, h1, h2⟩ := u8_list (zs.take len) fun n hn => hwf n (List.mem_of_mem_take hn)
    have h1' : l.length = len := by rw [h1, List.length_take]; omega
    subst h1'
    refine ⟨some a, cap, l, rfl, hl, hm, ?_, .inr ⟨_, _, rfl, by simp [lits]; omega⟩⟩
    by_cases hl0 : l = []
    · exact .inl (by simp [hl0])
    · refine .inr ⟨a, rfl, spot_none (hcell 0 (by have : 0 < l.length := List.length_pos_iff.2 hl0; omega)), fun k v hk => ?_⟩
      rw [h2] at hk
      have hk' : k < l.length := by
        have := (List.getElem?_eq_some_iff.1 hk).1
        simp at this
        omega
      have := hcell k (by omega)
      rw [List.getElem?_map, List.getElem?_take, if_pos hk', List.getElem?_eq_getElem (by omega)] at hk
      have he : v = Value.int .u8 (zs[k]'(by omega)) := by simpa using hk.symm
      subst he
      have e2 : (a.add (k * 1)) = a.add k := by rw [Nat.mul_one]
      simpa [List.getD, List.getElem?_eq_getElem (show k < zs.length by omega)] using this
/-- an argument: bytes -/
theorem arg_bytes {t e : TypeId} {base b0 : Nat} {r : Reach} {sp : Nat → Bool} {held : Bool} {v : Value} {d : DataW H} {p : List MemPlace} (ht : P.underlying t = some (.slice e)) (he : P.underlying e = some (.int .u8)) (hc : P.cellsOf e = 1)
    (hv : Value.okWide P W r b0 t v) (h : DataW.Trod enc P W base sp held t v d p) : ∃ (a : Option Addr) (c : Nat) (l : List UInt8), v = .slice a l.length c ∧ l.length ≤ c ∧ c ≤ maxLen ∧ Rd W a (l.map bv) ∧ (d = .nil ∧ l = [] ∨ ∃ E S, d = .slice E S ∧ E.length = l.length) := by
  obtain ⟨a, len, cap, rfl⟩ := okWide_slice ht hv
  obtain ⟨n, hn⟩ := h
  obtain ⟨a', c', l, h1, h2, h3, h4, h5⟩ := open_bytes ht he hc hn
  have : Value.slice a len cap = .slice a' l.length c' := by simpa [Value.cells] using h1
  exact ⟨a', c', l, this, h2, h3, h4, h5⟩
theorem weightsAll_mem {e : TypeId} : ∀ {l : List (DataW H)} {d : DataW H}, d ∈ l → ∀ n ∈ d.weights P e, n ∈ DataW.weightsAll P e l
  | x :: l, d, hd, n, hn => by
    simp only [DataW.weightsAll, List.mem_append]
    rcases List.mem_cons.1 hd with rfl | hd
    · exact .inl hn
    · exact .inr (weightsAll_mem hd n hn)
end
end Go.E
