import Derived.Test.YtbnckdnnaoddfaaGreatDoorAbsF
import Derived.RecoverIn
set_option linter.all false
namespace Go.Abs
variable {P : Program} {X : Orc} {rec : Cd} {gs base : Nat} {ι : Inj} {H : Hp} {nx : Nat}
/-! ### A function that defers the call of a function which asks whether there is a panic (there is none) -/
def regD : Code → Option (Array Oper)
  | .region _ ops false => some ops
  | _ => none
def seqD : Code → Option (Code × Code)
  | .seq a b => some (a, b)
  | _ => none
def blockD : Code → Option Code
  | .block _ a => some a
  | _ => none
def condD : Code → Option (Operand × Code)
  | .cond x a _ => some (x, a)
  | _ => none
def deferD : Op → Option Operand
  | .defer c => match c.callee with | .value f => if c.args.size = 0 then some f else none | _ => none
  | _ => none
def recoverOp : Op → Bool
  | .call c => match c.callee with | .builtin .recover => c.args.size == 0 | _ => false
  | _ => false
noncomputable def opsO (P : Program) (X : Orc) (base : Nat) (rec : Cd) (ops : Array Oper) (t : Tm) (h : Hp) (nx : Nat) (k : Tm → Hp → Nat → O) : O := (evOps P X base rec ops.toList ops.toList t h nx).el .fail k (fun _ _ _ _ => .fail 220) fun _ _ _ => .fail 220
/-- the deferred call: of a function that has what is captured -/
noncomputable def closeD (P : Program) (X : Orc) (base : Nat) (rec : Cd) (clo : FuncId) (cap : List AV) (h : Hp) (nx : Nat) : O :=
  oEl P.funcs[clo]? (.fail 211) fun fn => lEl fn.results.toList (oEl fn.body (.fail 211) fun c => bEl (funcB P.globals.size fn c) (bEl (Nat.ble (len cap) fn.ntmps) (fN8 (setArgs cap 0 tms) fun t =>
    oEl (seqD c) (.fail 212) fun ab => oEl (regD ab.1) (.fail 213) fun ops => lEl ops.toList (.fail 214) fun o l => lEl l (bEl (recoverOp o.op) (oEl o.guard (oEl o.dst (.fail 215) fun d => fN8 (put3 t (p3 d) .nilIface) fun t =>
      oEl (blockD ab.2) (.fail 216) fun b => oEl (seqD b) (.fail 217) fun xy => oEl (regD xy.1) (.fail 218) fun ops2 => oEl (condD xy.2) (.fail 219) fun q => oEl (regD q.2) (.fail 219) fun ops3 =>
        opsO P X base rec ops2 t h nx fun t h nx => onBool (opd q.1 t) (.fail 221) fun b => bEl b (opsO P X base rec ops3 t h nx fun _ h nx => .val unit h nx) (.fail 221)) fun _ => .fail 215) (.fail 215)) fun _ _ => .fail 214) (.fail 211)) (.fail 211)) fun _ _ => .fail 211
noncomputable def cloK (clo : FuncId) (v : AV) (k : List AV → O) : O := onFunc v (.fail 222) fun f a b => lEl a (Fn.rec (motive := fun _ => O) (fun g => bEl (Nat.beq g clo) (k b) (.fail 223)) (fun _ => .fail 223) (fun _ _ => .fail 223) (fun _ _ _ _ => .fail 223) (fun _ => .fail 223) f) fun _ _ => .fail 223
noncomputable def triedB (P : Program) (X : Orc) (rec : Cd) (clo : FuncId) (base : Nat) (fn : Func) (c : Code) (t : Tm) (h : Hp) (nx : Nat) : O :=
  oEl (seqD c) (.fail 212) fun ab => oEl (regD ab.1) (.fail 213) fun ops => oEl (seqD ab.2) (.fail 224) fun xy => oEl (regD xy.1) (.fail 225) fun ops1 =>
    lEl ops1.toList (.fail 226) fun o l => lEl l (.fail 226) fun o2 l => lEl l (oEl o.guard (oEl o2.guard (oEl o2.dst (oEl (deferD o2.op) (.fail 227) fun fv => opsO P X base rec ops t h nx fun t h nx =>
      (goK P X base rec o (fun t h nx => .norm t h nx) t h nx).el .fail (fun t h nx => cloK clo (opd fv t) fun cap =>
        let close := fun (t : Tm) (h : Hp) (nx : Nat) => (closeD P X base rec clo cap h nx).el .fail fun _ h nx => fin P fn.results.toList t h nx
        (rec base none xy.2 t h nx).el .fail close (fun _ _ _ _ => .fail 228) close) (fun _ _ _ _ => .fail 229) (fun _ _ _ => .fail 229)) fun _ => .fail 226) fun _ => .fail 226) fun _ => .fail 226) fun _ _ => .fail 226
noncomputable def ocTried (P : Program) (X : Orc) (f : Nat) (g clo : FuncId) : Oc := fun base args h nx =>
  oEl P.funcs[g]? (.fail 210) fun fn => oEl fn.body (.fail 210) fun c => bEl (funcB P.globals.size fn c) (bEl (Nat.ble (len args) fn.ntmps) (fN8 (setArgs args 0 tms) fun t => triedB P X (ev P X f) clo base fn c t h nx) (.fail 210)) (.fail 210)
/-! what these say -/
theorem regD_inv {c : Code} {ops : Array Oper} (h : regD c = some ops) : ∃ id, c = .region id ops false := by
  unfold regD at h; split at h
  · cases h; exact ⟨_, rfl⟩
  · cases h
theorem seqD_inv {c : Code} {q : Code × Code} (h : seqD c = some q) : c = .seq q.1 q.2 := by
  unfold seqD at h; split at h
  · cases h; rfl
  · cases h
theorem blockD_inv {c b : Code} (h : blockD c = some b) : ∃ id, c = .block id b := by
  unfold blockD at h; split at h
  · cases h; exact ⟨_, rfl⟩
  · cases h
theorem condD_inv {c : Code} {q : Operand × Code} (h : condD c = some q) : ∃ y, c = .cond q.1 q.2 y := by
  unfold condD at h; split at h
  · cases h; exact ⟨_, rfl⟩
  · cases h
theorem deferD_inv {o : Op} {f : Operand} (h : deferD o = some f) : ∃ c, o = .defer c ∧ c.callee = .value f ∧ c.args = #[] := by
  unfold deferD at h
  split at h
  · rename_i c
    split at h
    · rename_i f' hc
      split at h
      · rename_i hs
        cases h
        exact ⟨c, rfl, hc, Array.eq_empty_of_size_eq_zero hs⟩
      · cases h
    · cases h
  · cases h
theorem recoverOp_inv {o : Op} (h : recoverOp o = true) : ∃ c, o = .call c ∧ c.callee = .builtin .recover := by
  unfold recoverOp at h
  split at h
  · rename_i c
    split at h
    · rename_i hc; exact ⟨c, rfl, hc⟩
    · cases h
  · cases h
theorem seqB {n : Nat} {x y : Code} (hB : codeB gs n (.seq x y) = true) : codeB gs n x = true ∧ codeB gs n y = true := by
  change bEl (codeB gs n x) (codeB gs n y) false = true at hB
  rw [bEl_eq] at hB
  split at hB
  · exact ⟨by assumption, hB⟩
  · cases hB
theorem condB {n : Nat} {x : Operand} {y z : Code} (hB : codeB gs n (.cond x y z) = true) : opndB gs n x = true ∧ codeB gs n y = true ∧ codeB gs n z = true := by
  change bEl (opndB gs n x) (bEl (codeB gs n y) (codeB gs n z) false) false = true at hB
  rw [bEl_eq, bEl_eq] at hB
  split at hB
  · split at hB
    · exact ⟨by assumption, by assumption, hB⟩
    · cases hB
  · cases hB
theorem blockB {n id : Nat} {c : Code} (hB : codeB gs n (.block id c) = true) : codeB gs n c = true := hB
theorem opsO_ok {rdc : Option Nat} {m n id : Nat} {ops : Array Oper} (hB : codeB gs n (.region id ops false) = true) (hcs : CallsOk P X gs base rec rdc m) {t : Tm} {a : Act} {w : World} {k : Tm → Hp → Nat → O} {v : AV} {H' : Hp} {nx' : Nat} (ht : TR ι n t a.tmps)
    (hst : St gs base ι H nx w.heap) (h : opsO P X base rec ops t H nx k = .val v H' nx') (Q : Exit → Act → World → Prop)
    (hQ : ∀ a' w' ι' t1 H1 nx1, k t1 H1 nx1 = .val v H' nx' → Stp base ι H nx w ι' H1 nx1 w' → St gs base ι' H1 nx1 w'.heap → TR ι' n t1 a'.tmps → a'.defers = a.defers → Q .normal a' w') : (Code.region id ops false).wpIn (FW rdc) m P Q a w := by
  rw [opsO] at h
  generalize hr : evOps P X base rec ops.toList ops.toList t H nx = r at h
  cases r with
  | fail k => cases h
  | exit id t h' k => cases h
  | ret t h' k => cases h
  | norm t1 H1 nx1 =>
    refine wpIn_region ?_
    have hsz : ops.size = ops.toList.length := by simp
    rw [hsz, List.range_eq_range']
    refine evOps_ok (regionB hB) hcs ops.toList 0 rfl ι t H nx a w _ ht hst hr (by simp) _ ?_
    intro a' w' ι' t' H' nx' e s1 st1 tr1 k1 d1
    cases e
    exact hQ a' w' ι' _ _ _ h s1 st1 tr1 d1
theorem closeD_ok (hN : NamesOk P) (hX : OrcOk P.globals.size P X) (hrec : CdOk P.globals.size P rec) {m : Nat} {clo : FuncId} {cap : List AV} {cap' : Array Value} {w : World} {v : AV} {H' : Hp} {nx' : Nat} (ha : VRs ι cap cap'.toList)
    (hst : St P.globals.size base ι H nx w.heap) (h : closeD P X base rec clo cap H nx = .val v H' nx') :
    (P.funcs[clo]?.bind (·.body)).isSome = true ∧
    CallsDIn (FW none) m P clo cap' .returning w fun e u' w' => (∃ x, e = .returned x) ∧ u' = .returning ∧ ∃ ι', Stp base ι H nx w ι' H' nx' w' ∧ St P.globals.size base ι' H' nx' w'.heap := by
  have hcs : CallsOk P X P.globals.size base rec none m := callsOk hN hX hrec
  rw [closeD, oEl_eq] at h
  split at h
  · cases h
  rename_i fn hf
  rw [lEl_eq] at h
  split at h
  case h_2 => cases h
  rename_i hres
  rw [oEl_eq] at h
  split at h
  · cases h
  rename_i c hc
  refine ⟨by rw [hf]; simp [hc], ?_⟩
  rw [bEl_eq] at h
  split at h
  case isFalse => cases h
  rename_i hB
  rw [bEl_eq] at h
  split at h
  case isFalse => cases h
  rename_i hle
  have hle : cap.length ≤ fn.ntmps := by rw [len_eq] at hle; exact Nat.le_of_ble_eq_true hle
  unfold funcB at hB
  rw [bEl_eq] at hB
  split at hB
  case isFalse => cases hB
  rename_i h1
  rw [bEl_eq] at hB
  split at hB
  case isFalse => cases hB
  rename_i h2
  have h3 := hB
  have h1 : fn.ntmps ≤ 512 := Nat.le_of_ble_eq_true h1
  have ht := enter_tr (n := fn.ntmps) ha h1 hle
  rw [fN8_eq, oEl_eq] at h
  split at h
  · cases h
  rename_i ab hab
  rw [oEl_eq] at h
  split at h
  · cases h
  rename_i ops hops
  rw [lEl_eq] at h
  split at h
  · cases h
  rename_i o l hol
  rw [lEl_eq] at h
  split at h
  case h_2 => cases h
  rw [bEl_eq] at h
  split at h
  case isFalse => cases h
  rename_i hro
  rw [oEl_eq] at h
  split at h
  case h_2 => cases h
  rename_i hgd
  rw [oEl_eq] at h
  split at h
  · cases h
  rename_i d hd
  rw [fN8_eq, oEl_eq] at h
  split at h
  · cases h
  rename_i b hb
  rw [oEl_eq] at h
  split at h
  · cases h
  rename_i xy hxy
  rw [oEl_eq] at h
  split at h
  · cases h
  rename_i ops2 hops2
  rw [oEl_eq] at h
  split at h
  · cases h
  rename_i q hq
  rw [oEl_eq] at h
  split at h
  · cases h
  rename_i ops3 hops3
  have e1 := seqD_inv hab
  obtain ⟨i1, e2⟩ := regD_inv hops
  obtain ⟨i2, e3⟩ := blockD_inv hb
  have e4 := seqD_inv hxy
  obtain ⟨i3, e5⟩ := regD_inv hops2
  obtain ⟨els, e6⟩ := condD_inv hq
  obtain ⟨i4, e7⟩ := regD_inv hops3
  rw [e5, e6, e7] at e4
  rw [e4] at e3
  rw [e2, e3] at e1
  subst e1
  obtain ⟨b1, b2⟩ := seqB h2
  obtain ⟨b3, b4⟩ := seqB (blockB b2)
  obtain ⟨b5, b6, _⟩ := condB b4
  have hopB := regionB b1 o (by rw [hol]; exact List.mem_cons_self ..)
  obtain ⟨cl, hop, hcl⟩ := recoverOp_inv hro
  have hget : ops[0]? = some o := by rw [← Array.getElem?_toList, hol]; rfl
  have hsz : ops.size = 1 := by rw [← Array.length_toList, hol]; rfl
  refine callsDIn_of_wpSIn hf hc trivial fun c₀ cs hm => ?_
  refine wpSIn_seq (wpSIn_region ?_)
  rw [hsz]
  show wpOpsSIn (FW none) m P ops _ [0] _ _ w
  unfold wpOpsSIn
  rw [hget]
  simp only
  refine ⟨fun _ _ => trivial, ?_⟩
  rw [if_pos (by simp [Region.wanted, hgd])]
  have hrun : ∀ ρ : Operand → Value, (execOp ρ o).run P w = .ok .recover w := by
    intro ρ
    simp only [execOp, hop, resolve, hcl, pure_bind, invoke, builtin, Sem.run_pure]
  rw [hrun]
  have hrec0 : recoverD (c₀ :: cs) = none := by simp [recoverD, hm]
  simp only [hrec0, wpOpsSIn, Exit.thenS]
  have ht1 : TR ι fn.ntmps (put3 (setArgs cap 0 tms) (p3 d) .nilIface) (Act.put { tmps := cap' ++ Array.replicate (fn.ntmps - cap'.size) undef, defers := [] } o.dst .nilIface).tmps := by
    rw [hd]; exact ht.put (operB_dst hopB hd) .nilIface
  generalize ha1 : Act.put { tmps := cap' ++ Array.replicate (fn.ntmps - cap'.size) undef, defers := [] } o.dst .nilIface = a1 at ht1
  have hdf : a1.defers = [] := by rw [← ha1, put_defers]
  refine wpSIn_of_wpIn rfl (wpIn_block (wpIn_seq ?_))
  refine opsO_ok b3 hcs ht1 hst h _ fun a2 w2 ι2 t2 H2 nx2 h s2 st2 tr2 d2 => ?_
  rw [onBool_eq] at h
  split at h
  case h_2 => cases h
  rename_i bb hbb
  rw [bEl_eq] at h
  split at h
  case isFalse => cases h
  rename_i hbt
  have hx := opd_ok tr2 st2.glob b5
  rw [hbb, hbt] at hx
  refine wpIn_cond hx.bool_inv ?_
  rw [if_pos rfl]
  refine opsO_ok b6 hcs tr2 st2 h _ fun a3 w3 ι3 t3 H3 nx3 h s3 st3 tr3 d3 => ?_
  cases h
  have hr : results P t3 H' fn.results.toList = some [] := by rw [hres]; rfl
  obtain ⟨x, _, hrun⟩ := results_ok st3 tr3 h3 hr
  refine ⟨by rw [d3, d2, hdf], .returning, ?_, x, hrun, ⟨x, rfl⟩, rfl, ι3, s2.trans s3, st3⟩
  rw [← hm]
theorem leaves_then {F : Fence} {k : Nat} {fn : Func} {tmps : Array Value} {R : Ending → World → Prop} {w : World} {rest : List Deferred} : ∀ (ds : List Deferred) {ι' : Inj} {H' : Hp} {nx' : Nat} {w' : World}, Marks w.heap.size ι' H' nx' w' ds →
    Stp base ι H nx w ι' H' nx' w' → St gs base ι' H' nx' w'.heap → (∀ w'', Stp base ι H nx w ι' H' nx' w'' → St gs base ι' H' nx' w''.heap → LeavesInM F k P fn tmps R rest .returning w'') →
      LeavesInM F k P fn tmps R (ds ++ rest) .returning w'
  | [], ι', H', nx', w', _, hs, hst, hR => hR w' hs hst
  | d :: ds, ι', H', nx', w', hm, hs, hst, hR => by
    obtain ⟨c, h1, h2, h3, h4, h5⟩ := hm.all d (List.mem_cons_self ..)
    refine ⟨by simp, .inl ⟨c, _, h1, run_take h4, ?_⟩⟩
    have hap := List.pairwise_cons.1 hm.apart
    refine leaves_then ds ⟨fun e he => ?_, hap.2⟩ (hs.off h2 _) (hst.off h5 _) hR
    obtain ⟨c', k1, k2, k3, k4, k5⟩ := hm.all e (List.mem_cons_of_mem _ he)
    have hne : c ≠ c' := fun hc => hap.1 e he (by rw [h1, k1, hc])
    refine ⟨c', k1, k2, ?_, ?_, k5⟩
    · show _ < (w'.heap.setIfInBounds c _).size
      rw [Array.size_setIfInBounds]; exact k3
    · show (w'.heap.setIfInBounds c _)[c']? = _
      rw [Array.getElem?_setIfInBounds_ne hne]; exact k4
theorem cloK_inv {clo : FuncId} {v : AV} {k : List AV → O} {r : AV} {H' : Hp} {nx' : Nat} (h : cloK clo v k = .val r H' nx') : ∃ b, v = .func (.func clo) [] b ∧ k b = .val r H' nx' := by
  rw [cloK, onFunc_eq] at h
  split at h
  case h_2 => cases h
  rename_i f a b
  rw [lEl_eq] at h
  split at h
  case h_2 => cases h
  cases f with
  | func g =>
    change bEl (Nat.beq g clo) (k b) (.fail 223) = _ at h
    rw [bEl_eq] at h
    split at h
    · rename_i hg
      obtain rfl : g = clo := Nat.eq_of_beq_eq_true hg
      exact ⟨b, rfl, h⟩
    · cases h
  | _ => cases h
theorem oc_tried (hN : NamesOk P) (hX : OrcOk P.globals.size P X) (hmix : P.follows .mixedOrders = true) {f : Nat} {g clo : FuncId} : OcOk P.globals.size P g (ocTried P X f g clo) := by
  intro base ι H nx w args args' v H' nx' ha hst h
  have hrec := ev_ok hN hX hmix f
  rw [ocTried, oEl_eq] at h
  split at h
  · cases h
  rename_i fn hf
  rw [oEl_eq] at h
  split at h
  · cases h
  rename_i c hc
  rw [bEl_eq] at h
  split at h
  case isFalse => cases h
  rename_i hB
  rw [bEl_eq] at h
  split at h
  case isFalse => cases h
  rename_i hle
  have hle : args.length ≤ fn.ntmps := by rw [len_eq] at hle; exact Nat.le_of_ble_eq_true hle
  unfold funcB at hB
  rw [bEl_eq] at hB
  split at hB
  case isFalse => cases hB
  rename_i h1
  rw [bEl_eq] at hB
  split at hB
  case isFalse => cases hB
  rename_i h2
  have h3 := hB
  have h1 : fn.ntmps ≤ 512 := Nat.le_of_ble_eq_true h1
  have ht := enter_tr (n := fn.ntmps) ha h1 hle
  rw [fN8_eq, triedB, oEl_eq] at h
  split at h
  · cases h
  rename_i ab hab
  rw [oEl_eq] at h
  split at h
  · cases h
  rename_i ops hops
  rw [oEl_eq] at h
  split at h
  · cases h
  rename_i xy hxy
  rw [oEl_eq] at h
  split at h
  · cases h
  rename_i ops1 hops1
  rw [lEl_eq] at h
  split at h
  · cases h
  rename_i o l0 hl0
  rw [lEl_eq] at h
  split at h
  · cases h
  rename_i o2 l1
  rw [lEl_eq] at h
  split at h
  case h_2 => cases h
  rw [oEl_eq] at h
  split at h
  case h_2 => cases h
  rename_i hg1
  rw [oEl_eq] at h
  split at h
  case h_2 => cases h
  rename_i hg2
  rw [oEl_eq] at h
  split at h
  case h_2 => cases h
  rename_i hd2
  rw [oEl_eq] at h
  split at h
  · cases h
  rename_i fv hfv
  have e1 := seqD_inv hab
  obtain ⟨i1, e2⟩ := regD_inv hops
  have e3 := seqD_inv hxy
  obtain ⟨i2, e4⟩ := regD_inv hops1
  rw [e4] at e3
  rw [e2, e3] at e1
  subst e1
  obtain ⟨b1, b2⟩ := seqB h2
  obtain ⟨b3, b4⟩ := seqB b2
  obtain ⟨cl, hop2, hcl, hargs⟩ := deferD_inv hfv
  have hget0 : ops1[0]? = some o := by rw [← Array.getElem?_toList, hl0]; rfl
  have hget1 : ops1[1]? = some o2 := by rw [← Array.getElem?_toList, hl0]; rfl
  have hsz : ops1.size = 2 := by rw [← Array.length_toList, hl0]; rfl
  have hopB := regionB b3 o (by rw [hl0]; exact List.mem_cons_self ..)
  have hopB2 := regionB b3 o2 (by rw [hl0]; exact List.mem_cons_of_mem _ (List.mem_cons_self ..))
  have hbody : fn.body.isNone = false := by simp [hc]
  refine .inr ⟨run_callFunc hN hf hbody _ w, fun m => callsIn_of_wp_marks hf hc trivial ?_⟩
  have hcs : CallsOk P X P.globals.size base (ev P X f) none m := callsOk hN hX hrec
  refine wpIn_seq ?_
  refine opsO_ok b1 hcs ht hst h _ fun a1 w1 ι1 t1 H1 nx1 h s1 st1 tr1 d1 => ?_
  show (Code.seq _ _).wpIn _ _ _ _ a1 w1
  refine wpIn_seq (wpIn_region ?_)
  rw [hsz]
  show wpOpsIn (FW none) m P ops1 _ [0, 1] a1 w1
  unfold wpOpsIn
  rw [hget0]
  simp only
  rw [if_pos (by simp [Region.wanted, hg1])]
  generalize hr : goK P X base (ev P X f) o (fun t h nx => .norm t h nx) t1 H1 nx1 = r at h
  have hrnf : ∀ j, r ≠ .fail j := fun j e => by rw [e] at h; cases h
  refine goK_ok hopB tr1 st1 (hcs o ι1 t1 H1 nx1 a1 w1 (opds_ok tr1 st1.glob hopB) st1) hr hrnf _ _ ?_
  intro a2 w2 ι2 t2 H2 nx2 e s2 st2 tr2 k2 d2
  subst e
  change cloK clo (opd fv t2) _ = _ at h
  obtain ⟨cap, hcl2, h⟩ := cloK_inv h
  unfold wpOpsIn
  rw [hget1]
  simp only
  rw [if_pos (by simp [Region.wanted, hg2])]
  have hO := opds_ok tr2 st2.glob hopB2 fv (by
    show fv ∈ opnds o2.op
    rw [hop2]
    show fv ∈ callL cl
    rw [callL, hcl]
    exact List.mem_cons_self ..)
  rw [hcl2] at hO
  obtain ⟨f', first', cap', hval, hfn, hfirst, hcap⟩ := hO.func_inv
  have hfirst : first' = #[] := by
    have := hfirst.length
    exact Array.eq_empty_of_size_eq_zero (by simpa using this.symm)
  subst hfirst
  have hfn' : f' = .func clo := by cases hfn; rfl
  subst hfn'
  have hrun2 : (o2.semAt (FW none).round a2.eval).run P w2 = .ok (.defer { target := .fn (.func clo) cap', args := #[] }) w2 := by
    rw [FW_round, Oper.semAt_none]
    simp only [execOp, hop2, resolve, hcl, hargs, hval, Deferred.ofValue, Sem.run_bind, Sem.run_pure, Result.andThen]
    simp
  refine ⟨fun _ _ => trivial, ?_⟩
  rw [hrun2, Oper.uponIn_defer, hd2]
  show (xy.2).wpIn _ _ _ _ (Act.put { a2 with defers := _ :: a2.defers } none undef) w2
  generalize hD : ({ target := .fn (.func clo) cap', args := #[] } : Deferred) = dd
  have ht2 : TR ι2 fn.ntmps t2 (Act.put { a2 with defers := dd :: a2.defers } none undef).tmps := tr2
  generalize ha3 : Act.put { a2 with defers := dd :: a2.defers } none undef = a3 at ht2
  have hd3 : a3.defers = [dd] := by
    rw [← ha3]
    show dd :: a2.defers = [dd]
    rw [d2, d1]
  have hnf : ∀ k, ev P X f base none xy.2 t2 H2 nx2 ≠ .fail k := by
    intro k e; rw [e] at h; cases h
  refine wpIn_mono (hrec base none xy.2 t2 H2 nx2 fn.ntmps m ι2 w2 a3 none hnf b4 ht2 st2 trivial) ?_
  rintro e a4 w4 ⟨t4, H4, nx4, ι4, hfit, hg⟩
  obtain ⟨ds, hds, hm⟩ := hg.marks
  rw [hd3] at hds
  have s12 := (s1.trans s2)
  have key : (closeD P X base (ev P X f) clo cap H4 nx4).el .fail (fun _ h nx => fin P fn.results.toList t4 h nx) = .val v H' nx' → LeavesInM (FW none) m P fn a4.tmps (Back P.globals.size base ι H nx w v H' nx') a4.defers .returning w4 := by
    intro h
    rw [O.el_eq] at h
    split at h
    · cases h
    rename_i v5 H5 nx5 hclose
    rw [hds]
    refine leaves_then (gs := P.globals.size) ds hm hg.stp hg.st fun w5 hs5 hst5 => ?_
    have hcap4 : VRs ι4 cap cap'.toList := hcap.mono hs5.ext
    obtain ⟨hbd, hdin⟩ := closeD_ok (m := m - 1) hN hX hrec hcap4 hst5 hclose
    obtain ⟨fnc, hfc, hbc⟩ : ∃ fnc, P.funcs[clo]? = some fnc ∧ fnc.body.isNone = false := by
      cases hfc : P.funcs[clo]? with
      | none => rw [hfc] at hbd; cases hbd
      | some fnc =>
        rw [hfc] at hbd
        refine ⟨fnc, rfl, ?_⟩
        cases hb : fnc.body with
        | none => rw [Option.bind_some, hb] at hbd; cases hbd
        | some _ => rfl
    refine ⟨by simp, .inr ⟨fun hdep => (by cases hdep), .func clo, cap', clo, cap', by rw [← hD], ?_, fun _ _ => trivial, hdin.1, fun c cs hc hroom => ?_⟩⟩
    · rw [← hD]
      show (callFunc clo (#[] ++ cap')).run P w5 = _
      rw [Array.empty_append]
      exact run_callFunc hN hfc hbc _ w5
    · obtain ⟨e, u', w', fr, ⟨⟨x, rfl⟩, rfl, ι6, s6, st6⟩, hrest⟩ := hdin.2 c cs hc hroom
      refine ⟨.returned x, .returning, w', fr, ?_, hrest⟩
      rw [fin, oEl_eq] at h
      split at h
      · cases h
      rename_i lr hlr
      cases h
      obtain ⟨y, hy, hyrun⟩ := results_ok st6 (hg.tr.mono s6.ext) h3 hlr
      exact ⟨y, hyrun, y, ι6, rfl, hy, (s12.trans hs5).trans s6, st6⟩
  generalize hr3 : ev P X f base none xy.2 t2 H2 nx2 = r3 at h hfit
  cases r3 with
  | fail k => exact hfit.elim
  | norm t h' k =>
    obtain ⟨rfl, rfl, rfl, rfl⟩ := hfit
    exact key h
  | ret t h' k =>
    obtain ⟨rfl, rfl, rfl, rfl⟩ := hfit
    exact key h
  | exit id t h' k => cases h
end Go.Abs
namespace Go.Abs
variable {P : Program} {X : Orc} {gs base : Nat} {ι : Inj} {H : Hp} {nx : Nat}
/-! ### A call without arguments that makes one map: wherever it is made -/
noncomputable def flatV (v : AV) : Bool := v.el false true (fun _ => true) (fun _ _ => true) (fun _ => true) (fun _ _ => false) true (fun _ _ _ _ => false) true (fun _ => false) true (fun _ _ _ => false) true (fun _ _ => false) true (fun _ => false) (fun _ => false)
noncomputable def flatCells (t : Cl) (n : Nat) : Bool := Nat.rec (motive := fun _ => Bool) true (fun k ih => bEl (flatV (get4 t (p4 k))) ih false) n
noncomputable def flatOb (o : Ob) : Bool := onCellsOb o false fun t n _ _ => flatCells t n
noncomputable def flatEs (l : Es) : Bool := allL (fun p => band (flatV p.1) (flatV p.2)) l
noncomputable def sameEs (a : Es) : Es → Bool := List.rec (motive := fun _ => Es → Bool) (fun b => lEl b true fun _ _ => false) (fun p _ ih b => lEl b false fun q l => bEl (sameC0 p.1 q.1) (bEl (sameC0 p.2 q.2) (ih l) false) false) a
noncomputable def freshB (P : Program) (X : Orc) (f g0 : Nat) (e0 : TypeId) (g : FuncId) (rg : Rows) (es : Es) (m : Int) : Bool :=
  (evCall P X f P.globals.size g [] (hpOf g0 e0 m rg) P.globals.size).el (fun _ => false) fun v h _ => onMap v false fun r => band (Nat.ble P.globals.size r) (onMapOb (row h r) false fun es' => sameEs es es')
noncomputable def freshOk (gs g0 : Nat) (rg : Rows) (es : Es) : Bool := band (Nat.blt g0 gs) (band (flatEs es) (allL (fun p : Nat × Ob => band (Nat.blt p.1 gs) (band (bnot (Nat.beq p.1 g0)) (flatOb p.2))) rg))
noncomputable def ocFresh (g0 : Nat) (e0 : TypeId) (rg : Rows) (es : Es) : Oc := fun _ args h nx =>
  lEl args (bEl (isIntRow e0 (row h g0)) (bEl (rowsLe rg h) (fNat (Nat.succ nx) fun n => bEl (Nat.ble n 262144) (fN8 (put6 h (p6 nx) (.map es)) fun h => .val (.map nx) h n) (.fail 232)) (.fail 231)) (.fail 230)) fun _ _ => .fail 230
theorem VR.flat {ι' : Inj} {v : AV} {x : Value} (h : VR ι v x) (hf : flatV v = true) : VR ι' v x := by
  cases h
  case undef h => exact .undef _ h
  case bool => exact .bool _
  case int => exact .int _ _
  case str s l h => exact .str _ _ h
  case nilPtr => exact .nilPtr
  case nilSlice => exact .nilSlice
  case nilMap => exact .nilMap
  case nilFunc => exact .nilFunc
  case nilIface => exact .nilIface
  all_goals cases hf
theorem flatCells_ok {t : Cl} : ∀ {n : Nat}, flatCells t n = true → ∀ k, k < n → flatV (get4 t (p4 k)) = true
  | 0, _, k, hk => by omega
  | n + 1, h, k, hk => by
    change bEl (flatV (get4 t (p4 n))) (flatCells t n) false = true at h
    rw [bEl_eq] at h
    split at h
    · rename_i hn
      rcases Nat.lt_or_ge k n with h1 | h1
      · exact flatCells_ok h k h1
      · have : k = n := by omega
        rw [this]; exact hn
    · cases h
theorem ObR.flat {ι' : Inj} {m : Im} {ob : Ob} {o : Option Obj} (h : ObR gs ι m ob o) (hf : flatOb ob = true) : ObR gs ι' m ob o := by
  rw [flatOb, onCellsOb_eq] at hf
  split at hf
  · obtain ⟨cs, fz, ho, hc⟩ := h
    exact ⟨cs, fz, ho, hc.size, hc.exact', hc.most, hc.lim, hc.free, fun p h1 h2 => let ⟨a, v, hv, hr⟩ := hc.cell p h1 h2; ⟨a, v, hv, hr.flat (flatCells_ok hf p h2)⟩⟩
  · cases hf
theorem flatEs_ok {es : Es} (h : flatEs es = true) : ∀ p ∈ es, flatV p.1 = true ∧ flatV p.2 = true := by
  intro p hp
  rw [flatEs, allL_eq] at h
  have := List.all_eq_true.1 h p hp
  rw [band_eq, Bool.and_eq_true] at this; exact this
theorem ERs.flat {ι' : Inj} : ∀ {es : Es} {l : List MapEntry}, ERs ι es l → (∀ p ∈ es, flatV p.1 = true ∧ flatV p.2 = true) → ERs ι' es l
  | _, _, .nil, _ => .nil
  | _, _, .cons p e l l' hk hv ht, h => .cons _ _ _ _ (hk.flat (h p (List.mem_cons_self ..)).1) (hv.flat (h p (List.mem_cons_self ..)).2) (ERs.flat ht fun q hq => h q (List.mem_cons_of_mem _ hq))
theorem sameEs_ok : ∀ {a b : Es}, sameEs a b = true → b = a
  | [], b, h => by
    change lEl b true (fun _ _ => false) = true at h
    rw [lEl_eq] at h
    split at h
    · rfl
    · cases h
  | p :: a, b, h => by
    change lEl b false (fun q l => bEl (sameC0 p.1 q.1) (bEl (sameC0 p.2 q.2) (sameEs a l) false) false) = true at h
    rw [lEl_eq] at h
    split at h
    · cases h
    rename_i q l
    rw [bEl_eq] at h
    split at h
    case isFalse => cases h
    rename_i h1
    rw [bEl_eq] at h
    split at h
    case isFalse => cases h
    rename_i h2
    have e1 := sameC0_ok h1
    have e2 := sameC0_ok h2
    rw [sameEs_ok h]
    have : q = p := Prod.ext e1 e2
    rw [this]
theorem oc_fresh {f g0 : Nat} {e0 : TypeId} {g : FuncId} {rg : Rows} {es : Es} (hN : NamesOk P) (hX : OrcOk P.globals.size P X) (hmix : P.follows .mixedOrders = true) (he : ∀ m, freshB P X f g0 e0 g rg es m = true) (hok : freshOk P.globals.size g0 rg es = true) :
    OcOk P.globals.size P g (ocFresh g0 e0 rg es) := by
  intro base ι H nx w args args' v H' nx' ha hst hv
  simp only [freshOk, band_eq, Bool.and_eq_true, allL_eq, List.all_eq_true, bnot_eq, Bool.not_eq_true'] at hok
  obtain ⟨hg0, hfe, hrg⟩ := hok
  have hg0 : g0 < P.globals.size := by simpa using hg0
  have hrg : ∀ p ∈ rg, p.1 < P.globals.size ∧ p.1 ≠ g0 ∧ flatOb p.2 = true := fun p hp => ⟨by simpa using (hrg p hp).1, fun h => (by have := (hrg p hp).2.1; rw [h, Nat.beq_refl] at this; cases this), (hrg p hp).2.2⟩
  have hfe := flatEs_ok hfe
  rw [ocFresh, lEl_eq] at hv
  split at hv
  case h_2 => cases hv
  rw [bEl_eq] at hv
  split at hv
  case isFalse => cases hv
  rename_i hint
  rw [bEl_eq] at hv
  split at hv
  case isFalse => cases hv
  rename_i hrows
  rw [fNat_eq, bEl_eq] at hv
  split at hv
  case isFalse => cases hv
  rename_i htop
  have htop : nx + 1 ≤ 262144 := Nat.le_of_ble_eq_true htop
  rw [fN8_eq] at hv
  cases hv
  have hrows := rowsLe_ok hrows
  have hgn : P.globals.size ≤ nx := by
    rcases Nat.lt_or_ge nx P.globals.size with h | h
    · obtain ⟨m, e, _⟩ := hst.glob nx h
      rw [hst.fresh nx (Nat.le_refl _)] at e; cases e
    · exact h
  obtain ⟨mg, hmg, _, _⟩ := hst.glob g0 hg0
  have hg6 : g0 < 262144 := by have := hst.lt hmg; omega
  have hlive0 : (row H g0).live = true := by
    rw [isIntRow, onCellsOb_eq] at hint
    split at hint
    · rename_i h; rw [h]; rfl
    · cases hint
  obtain ⟨mg', hmg', hobg⟩ := hst.obs g0 (hst.lt hmg) hlive0
  obtain ⟨_, k, hk⟩ := isIntRow_ok hint hobg
  have h6 : ∀ p ∈ rg, p.1 < 262144 := fun p hp => by have := (hrg p hp).1; omega
  -- the rows of the variables
  have hH0 : ∀ b, b < 262144 → (row (hpOf g0 e0 k rg) b).live = false ∨ (b < P.globals.size ∧ flatOb (row (hpOf g0 e0 k rg) b) = true ∧ (row H b).live = true ∧ ∀ m, ι b = some m → ObR P.globals.size ι m (row H b) w.heap[m.c]? → ObR P.globals.size ι m (row (hpOf g0 e0 k rg) b) w.heap[m.c]?) := fun b hb => by
    rcases row_putRows hb (l := rg) (h := put6 (all6 .dead) (p6 g0) (intRow e0 k)) h6 with h1 | ⟨p, hp, h1, h2⟩
    · by_cases hbg : b = g0
      · subst hbg
        have e : row (hpOf b e0 k rg) b = intRow e0 k := by
          show row (putRows rg (put6 (all6 .dead) (p6 b) (intRow e0 k))) b = _
          rw [h1, row_put]
        refine .inr ⟨hg0, ?_, hlive0, fun m hm _ => ?_⟩
        · rw [e, flatOb, intRow, onCellsOb_eq]
          show bEl (flatV (get4 (put4 (all4 .undef) (p4 0) (.int .i64 k)) (p4 0))) true false = true
          rw [get4_put]; rfl
        · rw [hmg'] at hm; cases hm
          rw [e]; exact hk
      · refine .inl ?_
        show (row (putRows rg (put6 (all6 .dead) (p6 g0) (intRow e0 k))) b).live = false
        rw [h1, row_put_ne hg6 hb (fun h => hbg h.symm)]
        show (get6 (all6 Ob.dead) (p6 b)).live = false
        rw [get6_all]; rfl
    · subst h1
      have := hrows p hp
      have e : row (hpOf g0 e0 k rg) p.1 = p.2 := h2
      refine .inr ⟨(hrg p hp).1, by rw [e]; exact (hrg p hp).2.2, (leOb_live this).2, fun m _ ho => ?_⟩
      rw [e]; exact leOb_ok this ho
  let ι2 : Inj := fun b => if b < P.globals.size then ι b else none
  have i2 : ∀ b m, ι2 b = some m → b < P.globals.size ∧ ι b = some m := fun b m h => by
    show b < P.globals.size ∧ ι b = some m
    by_cases hb : b < P.globals.size
    · exact ⟨hb, by have h' : (if b < P.globals.size then ι b else none) = some m := h; rwa [if_pos hb] at h'⟩
    · have h' : (if b < P.globals.size then ι b else none) = some m := h
      rw [if_neg hb] at h'; cases h'
  have i2' : ∀ b, b < P.globals.size → ι2 b = ι b := fun b hb => if_pos hb
  have st2 : St P.globals.size P.globals.size ι2 (hpOf g0 e0 k rg) P.globals.size w.heap := by
    refine ⟨fun b hb => by rw [i2' b hb]; exact hst.glob b hb, by omega, Nat.le_refl _, fun b hb => if_neg (by omega), fun b hb hb' => ?_, fun b m h => hst.old b m (i2 b m h).2, fun b hb hl => ?_, fun b b' m m' hb hb' e1 e2 hc l1 l2 => ?_, fun x b m m' hx hb e1 e2 => ?_⟩
    · rcases hH0 b hb' with h | h
      · exact h
      · omega
    · rcases hH0 b (by omega) with h | ⟨_, h1, h2, h3⟩
      · rw [h] at hl; cases hl
      · obtain ⟨m, e, r⟩ := hst.obs b (by omega) h2
        exact ⟨m, by rw [i2' b hb]; exact e, (h3 m e r).flat h1⟩
    · rcases hH0 b (by omega) with h | ⟨_, _, h2, _⟩
      · rw [h] at l1; cases l1
      · rcases hH0 b' (by omega) with h | ⟨_, _, h2', _⟩
        · rw [h] at l2; cases l2
        · exact hst.inj b b' m m' (by omega) (by omega) (i2 _ _ e1).2 (i2 _ _ e2).2 hc h2 h2'
    · have := (i2 _ _ e2).1; omega
  have hev := he k
  rw [freshB, O.el_eq] at hev
  split at hev
  · cases hev
  rename_i v1 H1 nx1 hcall
  rw [onMap_eq] at hev
  split at hev
  case h_2 => cases hev
  rename_i r
  rw [band_eq, Bool.and_eq_true] at hev
  obtain ⟨hr, hev⟩ := hev
  have hr : P.globals.size ≤ r := Nat.le_of_ble_eq_true hr
  rw [onMapOb_eq] at hev
  split at hev
  case h_2 => cases hev
  rename_i es' hrow1
  have := sameEs_ok hev
  subst this
  rw [evCall, oEl_eq] at hcall
  split at hcall
  · cases hcall
  rename_i fn hfn
  have hargs0 : args' = #[] := by
    have := ha.length
    exact Array.eq_empty_of_size_eq_zero (by simpa using this.symm)
  have ha0 : VRs ι2 [] args'.toList := by rw [hargs0]; exact .nil
  refine .inr ⟨run_callFunc hN hfn (callF_ok (rdc := none) (m := 0) (ev_ok hN hX hmix f) hfn ha0 st2 hcall).1 _ w, fun m => ((callF_ok (rdc := none) (m := m) (ev_ok hN hX hmix f) hfn ha0 st2 hcall).2).mono ?_⟩
  rintro en w' ⟨x, ι', rfl, hx, s1, st1⟩
  obtain ⟨mm, hmm, rfl⟩ := hx.map_inv
  have hrn : r < nx1 := st1.lt hmm
  have hlr : (row H1 r).live = true := by rw [hrow1]; rfl
  obtain ⟨m2, hm2, hob⟩ := st1.obs r hrn hlr
  rw [hmm] at hm2; cases hm2
  rw [hrow1] at hob
  obtain ⟨ents, hheap, hes⟩ := hob
  have hnew : w.heap.size ≤ mm.c := by
    rcases Nat.lt_or_ge mm.c w.heap.size with h | h
    · obtain ⟨b, m3, hb, e, ec, _⟩ := s1.live mm.c h ⟨r, mm, hrn, hmm, rfl, hlr⟩
      have e' : ι' b = some m3 := by rw [s1.keep b hb]; exact e
      exact absurd ec (st1.sep b r m3 mm hb hr e' hmm)
    · exact h
  have hsz : mm.c < w'.heap.size := st1.old r mm hmm
  have same : ∀ c, c < w.heap.size → w'.heap[c]? = w.heap[c]? := fun c hc => s1.all_same hc
  have hfree := hst.fresh nx (Nat.le_refl _)
  have hle : ι.le (ι.put nx mm) := Inj.le_put hfree
  have hn6 : nx < 262144 := by omega
  have rows : ∀ b, b < 262144 → b ≠ nx → row (put6 H (p6 nx) (.map es')) b = row H b := fun b hb hne => row_put_ne hn6 hb fun e => hne e.symm
  refine ⟨_, ι.put nx mm, rfl, .map nx mm (Inj.put_self _ _ _), ⟨hle, s1.size, Nat.le_succ _, fun c hc _ => same c hc, fun c hc hl => ?_, s1.os, s1.output, s1.tape, fun b hb => Inj.put_ne (by omega), fun b k' i j hb hrb => ⟨by rw [rows b (by omega) (by omega)]; exact hrb, fun m3 _ hs => same _ hs⟩⟩,
    ⟨hst.glob.mono hle, htop, by have := hst.low; omega, fun b hb => ?_, fun b hb hb' => ?_, fun b m3 hb => ?_, fun b hb hl => ?_, fun b b' m3 m4 hb hb' e1 e2 hc l1 l2 => ?_, fun y b m3 m4 hy hb e1 e2 => ?_⟩⟩
  · obtain ⟨b, m3, hb, e, ec, l⟩ := hl
    by_cases hbn : b = nx
    · subst hbn; rw [Inj.put_self] at e; cases e; omega
    · rw [Inj.put_ne hbn] at e
      rw [rows b (by omega) hbn] at l
      exact ⟨b, m3, by omega, e, ec, l⟩
  · rw [Inj.put_ne (by omega)]; exact hst.fresh b (by omega)
  · rw [rows b hb' (by omega)]; exact hst.dead b (by omega) hb'
  · by_cases hbn : b = nx
    · subst hbn; rw [Inj.put_self] at hb; cases hb; exact hsz
    · rw [Inj.put_ne hbn] at hb
      exact Nat.lt_of_lt_of_le (hst.old b m3 hb) s1.size
  · by_cases hbn : b = nx
    · subst hbn
      refine ⟨mm, Inj.put_self _ _ _, ?_⟩
      rw [row_put]
      exact ⟨ents, hheap, hes.rel.flat hfe, hes.born⟩
    · rw [rows b (by omega) hbn] at hl ⊢
      obtain ⟨m3, e, r3⟩ := hst.obs b (by omega) hl
      exact ⟨m3, by rw [Inj.put_ne hbn]; exact e, by rw [same _ (hst.old b m3 e)]; exact r3.mono hle⟩
  · by_cases f1 : b = nx
    · by_cases f2 : b' = nx
      · omega
      · subst f1
        rw [Inj.put_self] at e1; cases e1
        rw [Inj.put_ne f2] at e2
        have := hst.old b' m4 e2; omega
    · rw [Inj.put_ne f1] at e1
      rw [rows b (by omega) f1] at l1
      by_cases f2 : b' = nx
      · subst f2
        rw [Inj.put_self] at e2; cases e2
        have := hst.old b m3 e1; omega
      · rw [Inj.put_ne f2] at e2
        rw [rows b' (by omega) f2] at l2
        exact hst.inj b b' m3 m4 (by omega) (by omega) e1 e2 hc l1 l2
  · have hyn : y < nx := Nat.lt_of_lt_of_le hy hst.low
    rw [Inj.put_ne (by omega)] at e1
    by_cases f : b = nx
    · subst f; rw [Inj.put_self] at e2; cases e2
      have := hst.old y m3 e1; omega
    · rw [Inj.put_ne f] at e2; exact hst.sep y b m3 m4 hy hb e1 e2
end Go.Abs
