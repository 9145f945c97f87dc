/-
  PROVED HERE: riposte/ripostelaw16.NetNames returns true and leaves what was there as it was, whatever the rest of the world holds, if the listed variables hold what the program's text lays (the tied card).
  HOW: an own abstract machine (AbsA to AbsG) runs the loaded code, deterministic, over rows with own numbers; it is proved sound against the kit's calculus (every order of evaluation that may be drawn, every order of a map's entries, every capacity that may be drawn, a deferred call that asks for a panic). The kernel runs it piece by piece (K0 .. N). The tie's nine facts are checked one by one (T0 .. T4): the given text that holds them all in one theorem needs more memory than there is here.
-/
import Derived.Test.YtbnckdnnaoddfaaGreatDoorO
import Derived.Test.YtbnckdnnaoddfaaGreatDoorCards
import Derived.ProofKit
import Derived.OpenShut
import Derived.LaidMore
import Derived.Lay
import Derived.LaidLaws
import Derived.MakeChecks
import Derived.SevenTiedAt
import Derived.Stop.Joined
import Derived.Shelf.Vars
import Derived.Test.YtbnckdnnaoddfaaGreatDoorT5
import Derived.Test.YtbnckdnnaoddfaaGreatDoorF7
import Derived.Test.YtbnckdnnaoddfaaGreatDoorF5
import Derived.Test.YtbnckdnnaoddfaaGreatDoorF2
import Derived.Test.YtbnckdnnaoddfaaGreatDoorF3
import Derived.Test.YtbnckdnnaoddfaaGreatDoorF4
set_option linter.all false
namespace Go.Abs
/-- a row of cells, as it is told -/
theorem rowC_ok {gs : Nat} {ι : Inj} {l : List AV} {e : TypeId} {cs : Array Value} {c : Nat} (hl : VRs ι l cs.toList) (hc : l.all AV.cell = true) (h4 : l.length ≤ 4096) :
    (rowC l e true).live = true ∧ ObR gs ι ⟨c, 0, cs.size⟩ (rowC l e true) (some (.cells cs e)) := by
  have hlen : l.length = cs.size := by simpa using hl.length
  unfold rowC
  rw [rowOf_eq, if_pos hc]
  refine ⟨rfl, cs, (0, 0), rfl, rfl, fun _ => ⟨rfl, by rw [len_eq]; exact hlen.symm⟩, by rw [len_eq, hlen]; exact Nat.le_add_left _ _, by rw [len_eq]; exact h4, fun i _ hi => by simp at hi, fun o _ ho => ?_⟩
  rw [len_eq] at ho
  have := RowS.new hl hc h4 o (Nat.zero_le _) ho
  obtain ⟨a, v, hv, hr⟩ := this
  refine ⟨a, v, ?_, hr⟩
  simpa using hv
theorem laidVars_mem {P : Program} {w : World} : ∀ {l : List (String × DataW Unit)} {ps : List MemPlace}, DataW.LaidVars P w l ps → ∀ x ∈ l, ∃ g t cs fuel p, P.globalNamed x.1 = some g ∧ (P.globals[g]?).map (·.type) = some t ∧ w.var? P x.1 = some cs ∧
    DataW.trod (fun _ => ()) P w 0 (fun _ => true) false fuel t cs.toList = some (x.2, p)
  | [], _, _, x, hx => by cases hx
  | (n, d) :: l, ps, h, x, hx => by
    obtain ⟨g, t, cs, fuel, p, q, h1, h2, h3, h4, h5, _⟩ := h
    rcases List.mem_cons.1 hx with rfl | hx
    · exact ⟨g, t, cs, fuel, p, h1, h2, h3, h4⟩
    · exact laidVars_mem h5 x hx
theorem var_heap {P : Program} {w : World} {n : String} {g : Nat} {cs : Array Value} (hg : P.globalNamed n = some g) (h : w.var? P n = some cs) {cs' : Array Value} {t : TypeId} (hh : w.heap[g]? = some (.cells cs' t)) : cs' = cs := by
  unfold World.var? at h
  rw [hg] at h
  simp only [Option.bind_some, hh] at h
  exact Option.some.inj h
end Go.Abs
namespace Go.Proofs.YtbnckdnnaoddfaaGreatDoor
open Go Go.Abs Go.ChangeShapes Go.WideShapes Go.ChangeAt Go.RowKit
set_option maxRecDepth 100000
theorem own : ownKnob Tryz.prog.godebug = none := by kernel_rfl
/-- what is laid, and the shape of the world -/
structure Start (W : World) : Prop where
  laid : laidMetH Tryz.prog Rows.netNamesRow.laid W
  shape : W.ShapedOpen Tryz.prog
theorem plain (W : World) : laidMetH Tryz.prog Rows.netNamesRow.laid W ↔ laidMet Tryz.prog Rows.netNamesRow.laid W := by
  rw [MakeChecks.laidMetH_plain _ _ _ (by kernel_rfl)]
theorem zero1 : ((begin Tryz.prog (fun _ _ => 0) default).world.heap[1]?).bind Obj.row? = some (#[.int .i64 0], 3) := by kernel_rfl
theorem zero0 : ((begin Tryz.prog (fun _ _ => 0) default).world.heap[0]?).bind Obj.row? = some (Array.replicate 256 (.int .u8 0), 292) := by kernel_rfl
theorem zero10 : ∃ z t, ((begin Tryz.prog (fun _ _ => 0) default).world.heap[10]?).bind Obj.row? = some (z, t) := ⟨#[.pointer none], 366, by kernel_rfl⟩
theorem g0 : Tryz.prog.globalNamed "strings.asciiSpace" = some 0 := by kernel_rfl
theorem ty0 : (Tryz.prog.globals[0]?).map (·.type) = some 292 := by kernel_rfl
theorem maxLen_cells {W : World} (h : W.ShapedOpen Tryz.prog) : ∃ m : Int, W.heap[1]? = some (.cells #[.int .i64 m] 3) := by
  obtain ⟨m, hm⟩ := Go.Proofs.cell_of_shapedOpen_int h (by rw [gsize]; decide) zero1 rfl (by kernel_rfl) (by kernel_rfl) Tryz.underlying3
  obtain ⟨cs, hh, hs, _⟩ := h.1 1 _ _ (by rw [gsize]; decide) zero1
  refine ⟨m, ?_⟩
  rw [hh]
  have h1 : cs.size = 1 := hs
  have : cs[0]? = some (.int .i64 m) := by
    simpa [World.cell?, hh] using hm
  obtain ⟨l⟩ := cs
  match l, h1, this with
  | [x], _, h => cases h; rfl
def spZ : List Int := [0, 0, 0, 0, 0, 0, 0, 0, 0, 1, 1, 1, 1, 1, 0, 0, 0, 0, 0, 0, 0, 0, 0, 0, 0, 0, 0, 0, 0, 0, 0, 0, 1, 0, 0, 0, 0, 0, 0, 0, 0, 0, 0, 0, 0, 0, 0, 0, 0, 0, 0, 0, 0, 0, 0, 0, 0, 0, 0, 0, 0, 0, 0, 0, 0, 0, 0, 0, 0, 0, 0, 0, 0, 0, 0, 0, 0, 0, 0, 0, 0, 0, 0, 0, 0, 0, 0, 0, 0, 0, 0, 0, 0, 0, 0, 0, 0, 0, 0, 0, 0, 0, 0, 0, 0, 0, 0, 0, 0, 0, 0, 0, 0, 0, 0, 0, 0, 0, 0, 0, 0, 0, 0, 0, 0, 0, 0, 0, 0, 0, 0, 0, 0, 0, 0, 0, 0, 0, 0, 0, 0, 0, 0, 0, 0, 0, 0, 0, 0, 0, 0, 0, 0, 0, 0, 0, 0, 0, 0, 0, 0, 0, 0, 0, 0, 0, 0, 0, 0, 0, 0, 0, 0, 0, 0, 0, 0, 0, 0, 0, 0, 0, 0, 0, 0, 0, 0, 0, 0, 0, 0, 0, 0, 0, 0, 0, 0, 0, 0, 0, 0, 0, 0, 0, 0, 0, 0, 0, 0, 0, 0, 0, 0, 0, 0, 0, 0, 0, 0, 0, 0, 0, 0, 0, 0, 0, 0, 0, 0, 0, 0, 0, 0, 0, 0, 0, 0, 0, 0, 0, 0, 0, 0, 0, 0, 0, 0, 0, 0, 0, 0, 0, 0, 0, 0, 0]
theorem space_cells {W : World} (h : Start W) : ∃ cs : Array Value, W.heap[0]? = some (.cells cs 292) ∧ cs.toList = spZ.map fun z => Value.int .u8 z := by
  obtain ⟨cs, hh, hs, _⟩ := h.shape.1 0 _ _ (by rw [gsize]; decide) zero0
  refine ⟨cs, hh, ?_⟩
  have h1 : cs.size = 256 := by simpa using hs
  obtain ⟨ps, hl, _⟩ := (plain W).1 h.laid
  obtain ⟨g, t, cs', fuel, p, e1, e2, e3, e4⟩ := laidVars_mem hl ("strings.asciiSpace", Rows.laid_strings_asciiSpace) (by unfold Rows.netNamesRow; exact List.mem_cons_self ..)
  obtain rfl := Option.some.inj (g0.symm.trans e1)
  obtain rfl := Option.some.inj (ty0.symm.trans e2)
  have := var_heap g0 e3 hh
  subst this
  obtain ⟨xs, m, _, ex, hc, hxl, hel⟩ := DataW.trod_array Tryz.underlying292 e4
  have c : Tryz.prog.cellsOf 5 = 1 := by kernel_rfl
  have e5 : xs.map (·.1) = spZ.map fun z => (.lit (.int .u8 z) : DataW Unit) := by
    have := (DataW.agg.inj (Prod.mk.inj ex).1).symm
    rw [this]; rfl
  have hlen : spZ.length = 256 := by decide
  apply List.ext_getElem?
  intro r
  by_cases hr : r < 256
  · have hE := hel r hr
    rw [c, Nat.mul_one, List.getElem?_eq_getElem (by omega)] at hE
    obtain ⟨z, f1, f2, _⟩ := DataW.trod_int Tryz.underlying5 hE
    have e6 : (xs.map (·.1))[r]? = (spZ.map fun z => (.lit (.int .u8 z) : DataW Unit))[r]? := by rw [e5]
    rw [List.getElem?_map, List.getElem?_map, List.getElem?_eq_getElem (by omega : r < xs.length), f2, List.getElem?_eq_getElem (by omega : r < spZ.length)] at e6
    simp only [Option.map_some, Option.some.injEq, DataW.lit.injEq, Lit.int.injEq, true_and] at e6
    rw [List.getElem?_map, List.getElem?_eq_getElem (by omega : r < spZ.length)]
    have h0 : ((cs.toList.drop r).take 1)[0]? = some (.int .u8 z) := by rw [f1]; rfl
    have h2 : cs.toList[r]? = some (.int .u8 z) := by
      rw [List.getElem?_take_of_lt (by decide), List.getElem?_drop] at h0
      simpa using h0
    rw [h2, e6]; rfl
  · rw [List.getElem?_eq_none (by simp; omega), List.getElem?_eq_none (by simp; omega)]
theorem ints_ok {ι : Inj} : ∀ l : List Int, VRs ι (l.map fun z => AV.int .u8 z) (l.map fun z => Value.int .u8 z)
  | [] => .nil
  | z :: l => .cons _ _ _ _ (.int _ _) (ints_ok l)
theorem spL_eq : spL = spZ.map fun z => AV.int .u8 z := rfl
end Go.Proofs.YtbnckdnnaoddfaaGreatDoor
namespace Go.Proofs.YtbnckdnnaoddfaaGreatDoor
open Go Go.Abs Go.ChangeShapes Go.WideShapes Go.ChangeAt Go.RowKit
set_option maxRecDepth 100000
/-- where the variables lie -/
def inj11 : Inj := fun b => if b < 11 then some ⟨b, 0, if b = 0 then 256 else 1⟩ else none
theorem rows_at (m : Int) (b : Nat) (hb : b < 262144) : (b = 1 ∧ row (hpOf 1 3 m rG) b = intRow 3 m) ∨ (b = 0 ∧ row (hpOf 1 3 m rG) b = rowC spL 292 true) ∨ row (hpOf 1 3 m rG) b = .dead := by
  have h6 : ∀ p ∈ rG, p.1 < 262144 := by
    intro p hp
    simp only [rG, List.mem_cons, List.not_mem_nil, or_false] at hp
    rcases hp with rfl; decide
  rcases row_putRows hb (l := rG) (h := put6 (all6 .dead) (p6 1) (intRow 3 m)) h6 with h1 | ⟨p, hp, h1, h2⟩
  · by_cases e : b = 1
    · subst e
      refine .inl ⟨rfl, ?_⟩
      show row (putRows rG _) 1 = _
      rw [h1, row_put]
    · refine .inr (.inr ?_)
      show row (putRows rG _) b = _
      rw [h1, row_put_ne (by decide) hb (fun h => e h.symm)]
      exact get6_all _ _
  · simp only [rG, List.mem_cons, List.not_mem_nil, or_false] at hp
    subst hp
    exact .inr (.inl ⟨h1.symm, h2⟩)
theorem start_st {W : World} (h : Start W) : ∃ m, St 11 11 inj11 (hpOf 1 3 m rG) 11 W.heap := by
  obtain ⟨m, h0⟩ := maxLen_cells h.shape
  obtain ⟨cs1, h1, e1⟩ := space_cells h
  obtain ⟨z7, t7, hz7⟩ := zero10
  obtain ⟨cs7, h7, _⟩ := h.shape.1 10 z7 t7 (by rw [gsize]; decide) hz7
  have hsz : 10 < W.heap.size := by
    rcases Nat.lt_or_ge 10 W.heap.size with h' | h'
    · exact h'
    · rw [Array.getElem?_eq_none h'] at h7; cases h7
  have hsz1 : cs1.size = 256 := by
    have := congrArg List.length e1
    rw [List.length_map] at this
    have h2 : spZ.length = 256 := by decide
    simpa [h2] using this
  refine ⟨m, ⟨fun g hg => ⟨⟨g, 0, if g = 0 then 256 else 1⟩, by simp [inj11, hg], rfl, rfl⟩, by decide, Nat.le_refl _, fun b hb => by simp [inj11]; omega, fun b hb hb' => ?_, fun b mm hb => ?_, fun b hb hl => ?_, fun b b' mm mm' _ _ e1 e2 hc _ _ => ?_, fun x b mm mm' _ hb _ e2 => ?_⟩⟩
  · rcases rows_at m b hb' with ⟨rfl, _⟩ | ⟨rfl, _⟩ | e
    · omega
    · omega
    · rw [e]; rfl
  · unfold inj11 at hb
    split at hb
    · cases hb; show b < W.heap.size; omega
    · cases hb
  · refine ⟨⟨b, 0, if b = 0 then 256 else 1⟩, by simp [inj11, hb], ?_⟩
    rcases rows_at m b (by omega) with ⟨rfl, e⟩ | ⟨rfl, e⟩ | e
    · rw [e, h0]
      refine ⟨#[.int .i64 m], (0, 0), rfl, rfl, fun _ => ⟨rfl, rfl⟩, by decide, by decide, fun i _ hi => by simp at hi, fun o _ ho => ?_⟩
      have : o = 0 := by omega
      subst this
      rw [get4_put]
      exact ⟨rfl, _, rfl, .int _ _⟩
    · rw [e, h1]
      have := (rowC_ok (gs := 11) (ι := inj11) (l := spL) (e := 292) (cs := cs1) (c := 0) (by
        rw [e1, spL_eq]; exact ints_ok spZ) (by rw [spL_eq, List.all_map, List.all_eq_true]; intro z _; rfl) (by rw [spL_eq, List.length_map]; decide)).2
      rw [hsz1] at this
      exact this
    · rw [e] at hl; cases hl
  · unfold inj11 at e1 e2
    split at e1 <;> split at e2 <;> first | (cases e1; done) | (cases e2; done) | (cases e1; cases e2; exact hc)
  · unfold inj11 at e2
    split at e2
    · omega
    · cases e2
/-- the call: true, and nothing that was there is changed -/
theorem calls {W : World} (h : Start W) : Calls Tryz.prog 3 #[] W fun e W' => e = .returned (.bool true) ∧ W'.os = W.os ∧ W'.output = W.output ∧ ∀ c, c < W.heap.size → W'.heap[c]? = W.heap[c]? := by
  obtain ⟨m, hst⟩ := start_st h
  have hst' : St Tryz.prog.globals.size 11 inj11 (hpOf 1 3 m rG) e3_11.n0 W.heap := by rw [gsize]; exact hst
  have := (ent_ok names x4_ok mixed (by rw [gsize]; decide) (chk_all c3_11) k3_11 (args := []) (args' := #[]) .nil hst' rfl (congrFun rG_int m) (congrFun rG_le m)).2 0
  refine (callsIn_wide.1 this).mono ?_
  rintro e W' ⟨x, ι', rfl, hx, hs, _⟩
  have hx : VR ι' (.bool true) x := hx
  have := hx.bool_inv; subst this
  exact ⟨rfl, hs.os, hs.output, fun c hc => Stp.all_same (nx := 11) hs hc⟩
theorem kept {W W' : World} (h1 : W'.os = W.os) (h2 : W'.output = W.output) (h : ∀ c, c < W.heap.size → W'.heap[c]? = W.heap[c]?) : W.keptBut W' (fun _ => False) := by
  refine ⟨h1, h2, fun i hi => ?_⟩
  rw [h i hi]
  cases W.heap[i]? with
  | none => rfl
  | some o => cases o <;> first | exact ⟨rfl, rfl, rfl, fun _ _ => rfl⟩ | exact .inr ⟨rfl, rfl⟩ | rfl
theorem returns {H : Type} {enc : TypeId × Value → H} {a : Assume} {C : Checked} {os : Os} {f : FuncId} {fn : Func} {s : ChangeSpec} {conds : List PathCond} {apart fresh handsOn again : Bool} {X : World → Array Value → Prop}
    (hX : ∀ (w w' : World) (args : Array Value), w.heap = w'.heap → X w args → X w' args) (own : ownKnob C.prog.godebug = none) (started : os.Started) (noInit : C.prog.inits.idxOf? f = none) (hfn : C.prog.funcs[f]? = some fn)
    (witness : ∃ (w : World) (tape : Tape) (i : Input), w.os = os ∧ (w.forCall tape i).Shaped C.prog ∧ i.vars = [] ∧ Input.okWide C.prog (w.forCall tape i) .any w.heap.size f i ∧
      ((s.pre enc C.prog fn conds apart (w.forCall tape i).memory i.args ∧ X (w.forCall tape i).memory i.args) ∧ sizedMet enc C.prog fn (OpenSpec.ofChange s) apart (w.forCall tape i).memory i.args) ∧ a.holds C.prog (lone (Frame.enter C.prog f i.args .normal) [] (w.forCall tape i)))
    (contract : ∀ (W : World) (args : Array Value) (ds gs : List (DataW H)) (before : List MemPlace), DataW.Whole enc C.prog fn.params.toList s.vars apart W args.toList ds gs before → W.ShapedOpen C.prog → X W args →
      Calls C.prog f args W fun e W' => ∃ v, e = .returned v ∧ s.post enc C.prog fn apart fresh handsOn again W args v W') :
    ReturnsInHanded a C os f .any (fun w args => (s.pre enc C.prog fn conds apart w args ∧ X w args) ∧ sizedMet enc C.prog fn (OpenSpec.ofChange s) apart w args) (s.post enc C.prog fn apart fresh handsOn again) := by
  refine returnsInHanded_of_calls own started noInit witness ?_
  intro w tape i _ hsh _ hok hpre hholds
  obtain ⟨_, _, _, fn', hfn', _, _, _, _, hval⟩ := hok
  have e : fn' = fn := Option.some.inj (hfn'.symm.trans hfn)
  subst e
  obtain ⟨⟨⟨ds, gs, before, hw, hc⟩, hx⟩, hz⟩ := hpre
  have hw' := DataW.Whole.of_heap (w' := w.forCall tape i) (by rfl) hw
  refine (contract (w.forCall tape i) i.args ds gs before hw' hsh (hX _ _ _ (by rfl) hx)).mono fun e W' ⟨v, he, hp⟩ => ?_
  subst he
  exact ChangeSpec.post_blind hp
theorem lifted (os : Os) (started : os.Started) (H : Type) (enc : TypeId × Value → H) :
    ReturnsInHanded {} Tryz.checked os 3 .any (fun w args => (Rows.netNamesSpec.pre enc Tryz.prog Tryz.f3 Rows.netNamesRow.domain false w args ∧ laidMetH Tryz.prog Rows.netNamesRow.laid w) ∧ sizedMet enc Tryz.prog Tryz.f3 (OpenSpec.ofChange Rows.netNamesSpec) false w args)
      (Rows.netNamesSpec.post enc Tryz.prog Tryz.f3 false true false false) := by
  refine returns (C := Tryz.checked) (X := fun w _ => laidMetH Tryz.prog Rows.netNamesRow.laid w) (fun _ _ _ hh h => h.of_heap hh) own started (by kernel_rfl) Tryz.func3
    (ChangeSpec.witness_shaped (enc := enc) (C := Tryz.checked) (os := os) (X := fun w _ => laidMetH Tryz.prog Rows.netNamesRow.laid w) false (World.laidAll Tryz.prog os Rows.netNamesRow.laid) #[] 8 (World.laidAll_os _ _ _)
      (World.shaped_of_ZipB (by kernel_rfl) (by kernel_rfl)) (by kernel_rfl) (by kernel_rfl) (by kernel_rfl)
      (by rw [MakeChecks.laidMetH_plain _ _ _ (by kernel_rfl)]; exact laidMet_laidAll _ (by kernel_rfl) (by kernel_rfl))) ?_
  intro W args ds gs before hW hsh hL
  have hW' := hW
  obtain ⟨p, q, hA0, hV, rfl, _, _⟩ := hW
  have hA : DataW.TrodAll enc Tryz.prog W 0 (fun _ => true) true Tryz.f3.params.toList args.toList ds p := hA0
  rw [Tryz.params3] at hA
  obtain ⟨hargs, rfl, rfl⟩ := trodAll_none hA
  obtain ⟨rfl, rfl⟩ := trodVars_none hV
  obtain rfl : args = #[] := by cases args; simp_all
  simp only [List.append_nil] at hW'
  refine (calls ⟨hL, hsh⟩).mono fun e W' ⟨he, h1, h2, h3⟩ => ?_
  subst he
  refine ⟨_, rfl, _, _, _, [], [], [], hW', ?_, ?_, ?_, World.keptBut_mono (fun _ h => h.elim) (kept h1 h2 h3), fun h => by cases h⟩
  · exact trodAll_mk1 (shut_bool Tryz.underlying4 true)
  · exact trodAll_mk0
  · rfl
theorem over : Rows.NetNamesSaid :=
  OpenClaim.holds_of_wide 3 Tryz.f3 rfl rfl rfl rfl rfl rfl rfl ⟨rfl, rfl, rfl, rfl, rfl⟩ rfl rfl rfl rfl rfl row_a1 Tryz.func3 row_a2 (of_decide_eq_true row_a3) row_a4 (fun os started H enc _ => lifted os started H enc)
theorem netNames_card : Rows.NetNamesCardSaid :=
  Claim7.holds_tied_plain_at .later [] [.data, .pinned, .data, .listed, .data, .data, .data, .sentinel, .sentinel] true (true, "ed767d8727b1989ac7c4193065bf6b0c51bc52021811ad04293d56df96c278e7") true over (fun _ h => by cases h) row_b1 (fun _ h => by cases h) netNames_row_tie rfl ⟨rfl, rfl⟩ row_b2 rfl
    (fun f fn hf hfn => by
      obtain rfl : f = 3 := Option.some.inj (row_a1.symm.trans hf) |>.symm
      obtain rfl : fn = Tryz.f3 := (Option.some.inj (Tryz.func3.symm.trans hfn)).symm
      exact ⟨row_b0, fun j t ht => by
        rw [Tryz.params3] at ht
        simp at ht⟩)
    row_b4
#print axioms netNames_card
end Go.Proofs.YtbnckdnnaoddfaaGreatDoor
