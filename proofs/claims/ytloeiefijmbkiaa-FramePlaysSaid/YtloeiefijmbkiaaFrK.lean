/-
  'scantlinglaw05.FramePlays' returns true whatever parts come, and leaves them as they were. No condition.
-/
import Derived.Test.YtloeiefijmbkiaaRows
import Derived.Test.YtloeiefijmbkiaaFrJ
set_option linter.unusedSimpArgs false
set_option linter.unusedVariables false
set_option linter.unusedSectionVars false
namespace Go.Proofs.Ytloeiefijmbkiaa.plays
open Go.ChangeShapes Go.WideShapes Go.ChangeAt Go.RowKit Go.E

theorem own : ownKnob Try.prog.godebug = none := by kernel_rfl
theorem laidOut : laidOutB Try.prog = true := by kernel_rfl

theorem args_open {H : Type} {enc : TypeId × Value → H} {W : World} {base : Nat} {v : Value} {d : DataW H} {p : List MemPlace} (hv : Value.okWide Try.prog W .any base 22 v)
    (h : DataW.Trod enc Try.prog W 0 (fun _ => true) true 22 v d p) (hz : ∀ n ∈ d.weights Try.prog 22, n ≤ reachBytes) :
    ∃ (pa : Option Addr) (pc : Nat) (ps : List PartZ), v = .slice pa ps.length pc ∧ ps.length ≤ 2^48 ∧ Rd W pa (ps.flatMap pcl) ∧ ∀ p ∈ ps, Rd W p.a (p.b.map bv) ∧ p.b.length ≤ 2^48 ∧ 0 ≤ p.t ∧ p.t ≤ 65535 := by
  obtain ⟨a0, n0, c0, rfl⟩ := okWide_slice Try.underlying22 hv
  obtain ⟨fuel, h⟩ := h
  have hst : ∃ f0 f1, Try.prog.underlying 33 = some (.struct #[f0, f1]) ∧ f0.offset = 0 ∧ f1.offset = 1 ∧ f0.type = 27 ∧ f1.type = 31 := ⟨_, _, Try.underlying33, rfl, rfl, rfl, rfl⟩
  obtain ⟨f0, f1, hst, o0, o1, t0, t1⟩ := hst
  rcases Deep.open_slice_pairs Try.underlying22 hst (by kernel_rfl) o0 o1 (by rw [t0]; kernel_rfl) (by rw [t1]; kernel_rfl) h with ⟨h1, _⟩ | ⟨a, len, cap, m, n, V0, V1, D0, D1, P0, P1, h1, hb, hl, hm, hmm, hx, hi⟩
  · have e : Value.slice a0 n0 c0 = .slice none 0 0 := by simpa [Value.cells] using h1
    cases e
    exact ⟨none, 0, [], rfl, by simp, .inl rfl, by simp⟩
  · have e : Value.slice a0 n0 c0 = .slice (some a) len cap := by simpa [Value.cells] using h1
    cases e
    have hml : n0 ≤ m := by rw [hmm]; split <;> omega
    have hxd := congrArg Prod.fst hx
    simp only at hxd
    subst hxd
    have hwt : n0 ≤ reachBytes ∧ ∀ i, i < n0 → ∀ k ∈ (D0 i).weights Try.prog 27, k ≤ reachBytes := by
      simp only [DataW.weights, Try.underlying22, List.mem_cons, List.mem_append] at hz
      refine ⟨?_, fun i hil k hk => ?_⟩
      · have := hz _ (.inl rfl)
        rw [show Try.prog.bytesOf 33 = 32 by kernel_rfl] at this
        simp only [List.length_map, List.length_range] at this
        omega
      · refine hz k (.inr (.inl (weightsAll_mem (d := .agg [D0 i, D1 i]) (List.mem_map.2 ⟨i, by simpa using hil, rfl⟩) k ?_)))
        simp only [DataW.weights, hst]
        simp only [List.map_cons, List.map_nil, DataW.weightsEach, List.mem_append, t0]
        exact .inl hk
    have each : ∀ i, i < n0 → ∃ p : PartZ, V0 i = .slice p.a p.b.length p.c ∧ V1 i = .int .u16 p.t ∧ Rd W p.a (p.b.map bv) ∧ p.b.length ≤ 2^48 ∧ 0 ≤ p.t ∧ p.t ≤ 65535 := by
      intro i hil
      obtain ⟨_, _, g0, g1⟩ := hi i (by omega)
      rw [t0] at g0
      rw [t1] at g1
      obtain ⟨pa, pc, l, e1, e2, e3, e4, e5⟩ := open_bytes Try.underlying27 Try.underlying5 (by kernel_rfl) g0
      obtain ⟨z, e6, _, hw⟩ := DataW.trod_int Try.underlying31 g1
      have hzz : 0 ≤ z ∧ z ≤ 65535 := by simpa [Lit.wf, IntKind.min, IntKind.max, IntKind.signed, IntKind.bits] using hw
      refine ⟨⟨pa, pc, l, z⟩, by simpa using e1, by simpa using e6, e4, ?_, hzz⟩
      rcases e5 with ⟨_, rfl⟩ | ⟨E, S, e5, e7⟩
      · simp
      · have := hwt.2 i hil
        simp only at e5
        rw [e5] at this
        have := this ((E.length + S.length) * Try.prog.bytesOf 5) (by simp [DataW.weights, Try.underlying27])
        rw [show Try.prog.bytesOf 5 = 1 by kernel_rfl] at this
        have := reachBytes_lt
        simp only
        omega
    have : Inhabited PartZ := ⟨⟨none, 0, [], 0⟩⟩
    obtain ⟨q, hq⟩ := Deep.choose_lt each
    have hql : ((List.range n0).map q).length = n0 := by simp
    have hreach := reachBytes_lt
    refine ⟨some a, c0, (List.range n0).map q, by rw [hql], by rw [hql]; omega, ?_, ?_⟩
    · by_cases hl0 : n0 = 0
      · exact .inl (by simp [hl0])
      · have hsp : a.spot = none := by have := (hi 0 (by omega)).1; rw [Nat.zero_mul] at this; simpa [Addr.add] using spot_none this
        refine .inr ⟨a, rfl, hsp, fun k v hk => ?_⟩
        have hkl : k < n0 * 2 := by
          have := (List.getElem?_eq_some_iff.1 hk).1
          rw [pcl_len, hql] at this
          exact this
        have hat := pcl_at ((List.range n0).map q) (k / 2) (by rw [hql]; omega)
        have hk2 : (((List.range n0).map q).flatMap pcl)[k]? = (pcl ((List.range n0).map q)[k / 2])[k % 2]? := by
          rw [← hat, List.getElem?_take, if_pos (by omega), List.getElem?_drop, show k / 2 * 2 + k % 2 = k by omega]
        rw [hk2] at hk
        simp only [List.getElem_map, List.getElem_range] at hk
        obtain ⟨g0, g1, _, _⟩ := hi (k / 2) (by omega)
        obtain ⟨e1, e2, _⟩ := hq (k / 2) (by omega)
        rcases Nat.mod_two_eq_zero_or_one k with hk0 | hk0
        · rw [hk0] at hk
          have e : v = V0 (k / 2) := by rw [e1]; simpa [pcl] using hk.symm
          rw [e, ← g0, show k / 2 * 2 = k by omega]
        · rw [hk0] at hk
          have e : v = V1 (k / 2) := by rw [e2]; simpa [pcl] using hk.symm
          rw [e, ← g1, show k / 2 * 2 + 1 = k by omega]
    · intro p hp
      obtain ⟨i, hil, rfl⟩ := List.mem_map.1 hp
      obtain ⟨_, _, h3⟩ := hq i (by simpa using hil)
      exact h3

theorem contract (H : Type) (enc : TypeId × Value → H) (W : World) (base : Nat) (args : Array Value) (ds gs : List (DataW H)) (before : List MemPlace)
    (hval : ∀ (j : Nat) t v, Try.f3.params[j]? = some t → args[j]? = some v → Value.okWide Try.prog W .any base t v)
    (hW : DataW.Whole enc Try.prog Try.f3.params.toList Rows.framePlaysSpec.vars false W args.toList ds gs before)
    (hz : (DataW.weightsEach Try.prog (Try.f3.params.toList ++ Rows.framePlaysSpec.plain.varTypes Try.prog) (ds ++ gs)).all (· ≤ reachBytes) = true) :
    Calls Try.prog 3 args W fun e W' => ∃ v, e = .returned v ∧ Rows.framePlaysSpec.post enc Try.prog Try.f3 false true false false W args v W' := by
  have hW' := hW
  obtain ⟨p, q, hA, hV, rfl, hfz, hnd⟩ := hW
  rw [Try.params3] at hA hval hz
  obtain ⟨v0, vs0, d0, ds0, p0, q0, hargs, rfl, rfl, h0, r0⟩ := trodAll_cons hA
  obtain ⟨rfl, rfl, rfl⟩ := trodAll_nil r0
  obtain rfl : args = #[v0] := by cases args; simp_all
  obtain ⟨rfl, rfl⟩ := trodVars_none hV
  obtain ⟨pa, pc, ps, rfl, hn, hpa, hps⟩ := args_open (hval 0 _ v0 rfl rfl) h0 fun n hn => by
    have := List.all_eq_true.1 hz n (DataW.weights_mem_each (j := 0) rfl rfl n hn)
    simpa using this
  refine law_calls 4 laidOut (by kernel_rfl) (by kernel_rfl) Try.underlying4 rfl rfl hW' ?_
  have h1 := ((Ctx.begin W).arr_of mem0 hpa).all_of (fun p => p ∈ ps) (fun p : PartZ => p.a) (fun p => p.b.map bv) mem1 fun p hp => (hps p hp).1
  refine (plays_ok (pc := pc) h1 (Rdb.of_arr mem1) hn fun p hp => ⟨Rdb.of_all (p := fun p => p ∈ ps) (A := fun p : PartZ => p.a) (V := fun p => p.b.map bv) mem0 hp, (hps p hp).2⟩).mono ?_
  rintro v w' ⟨rfl, h2⟩
  exact ⟨rfl, _, _, h2, mem2⟩

set_option maxRecDepth 100000 in
theorem lifted (os : Os) (started : os.Started) (H : Type) (enc : TypeId × Value → H) :
    ReturnsInHanded {} Try.checked os 3 .any (Rows.framePlaysSpec.pre6 enc Try.prog Try.f3 Rows.framePlaysRow.domain false) (Rows.framePlaysSpec.post enc Try.prog Try.f3 false true false false) := by
  refine returnsInHanded_of_change_sized (C := Try.checked) (s := Rows.framePlaysSpec) own started (by kernel_rfl) Try.func3
    (ChangeSpec.witness6 (enc := enc) (C := Try.checked) (s := Rows.framePlaysSpec) false ⟨#[], #[.slice none 0 0], []⟩ 8 (by kernel_rfl) (by kernel_rfl) (by kernel_rfl) (by kernel_rfl)) ?_
  intro W base args ds gs before hval hW _ hz _
  exact contract H enc W base args ds gs before hval hW hz

theorem proved : Rows.FramePlaysSaid :=
  OpenClaim.holds_of_wide 3 Try.f3 rfl rfl rfl rfl rfl rfl rfl ⟨rfl, rfl, rfl, rfl, rfl⟩ rfl rfl rfl rfl rfl (by kernel_rfl) Try.func3 (by kernel_rfl)
    (of_decide_eq_true (by kernel_rfl)) (by unfold Func.isWrapper; first | (rw [if_pos (by decide +kernel)]; kernel_rfl) | (rw [if_neg (by decide +kernel)]; exact ⟨rfl, rfl⟩))
    (fun os started H enc _ => lifted os started H enc)
end Go.Proofs.Ytloeiefijmbkiaa.plays
