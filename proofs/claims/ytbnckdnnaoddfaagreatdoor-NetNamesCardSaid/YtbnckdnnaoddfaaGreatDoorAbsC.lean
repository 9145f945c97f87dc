import Derived.Test.YtbnckdnnaoddfaaGreatDoorAbsB
set_option linter.all false
namespace Go.Abs
variable {P : Program} {o : Oper} {ι : Inj}
/-- an operation that does something, but calls nothing, soundly -/
def X0R (P : Program) (o : Oper) (f : Nat → Tm → Hp → Nat → O) : Prop := ∀ (gs base : Nat) (ι : Inj) (H : Hp) (nx : Nat) (w : World) (t : Tm) (ρ : Operand → Value), St gs base ι H nx w.heap →
  (∀ x ∈ opnds o.op, VR ι (opd x t) (ρ x)) → ∀ v H' nx', f base t H nx = .val v H' nx' →
    ∃ (n : Next) (x : Value) (w' : World) (ι' : Inj), (execOp ρ o).run P w = .ok n w' ∧ (n = .value x ∨ (n = .skip ∧ x = undef)) ∧ VR ι' v x ∧ Stp base ι H nx w ι' H' nx' w' ∧ St gs base ι' H' nx' w'.heap
def World.setB (w : World) (c : Nat) (o : Obj) : World := { w with heap := w.heap.setIfInBounds c o }
theorem setB_self {w : World} {c : Nat} {o : Obj} (h : w.heap[c]? = some o) : World.setB w c o = w := by
  have : w.heap.setIfInBounds c o = w.heap := by
    apply Array.ext_getElem?
    intro i
    by_cases e : c = i
    · subst e
      obtain ⟨hlt, _⟩ := Array.getElem?_eq_some_iff.1 h
      rw [Array.getElem?_setIfInBounds_self_of_lt hlt, h]
    · rw [Array.getElem?_setIfInBounds_ne e]
  unfold World.setB; rw [this]
theorem setB_heap {w : World} {c : Nat} {o : Obj} (h : c < w.heap.size) : (World.setB w c o).heap[c]? = some o := by
  show (w.heap.setIfInBounds c o)[c]? = _
  rw [Array.getElem?_setIfInBounds_self_of_lt h]
theorem setB_setB (w : World) (c : Nat) (o o' : Obj) : World.setB (World.setB w c o) c o' = World.setB w c o' := by
  unfold World.setB
  simp
theorem setCell_eq {w : World} {c i : Nat} {cs : Array Value} {e : TypeId} {fz : Nat × Nat} (h : w.heap[c]? = some (.cells cs e fz)) (v : Value) :
    w.setCell ⟨c, i, none⟩ v = World.setB w c (.cells (cs.setIfInBounds i v) e fz) := by
  unfold World.setCell World.setB
  congr 1
  apply Array.ext_getElem?
  intro j
  rw [Array.getElem?_modify]
  by_cases ej : c = j
  · subst ej
    obtain ⟨hlt, _⟩ := Array.getElem?_eq_some_iff.1 h
    rw [if_pos rfl, h, Array.getElem?_setIfInBounds_self_of_lt hlt]; rfl
  · rw [if_neg ej, Array.getElem?_setIfInBounds_ne ej]
theorem run_store_at {w : World} {c i : Nat} {cs : Array Value} {e : TypeId} {fz : Nat × Nat} (h : w.heap[c]? = some (.cells cs e fz)) (hi : i < cs.size) (hf : ¬ (fz.1 ≤ i ∧ i < fz.2)) {v : Value} (hv : cellV v = true) :
    (Go.store ⟨c, i, none⟩ v).run P w = .ok () (World.setB w c (.cells (cs.setIfInBounds i v) e fz)) := by
  have h1 : w.cell? ⟨c, i, none⟩ = some cs[i] := by rw [cell_at h, Array.getElem?_eq_getElem hi]
  have h2 : w.frozen? ⟨c, i, none⟩ = false := by
    simp only [World.frozen?, h]
    simp only [Bool.and_eq_false_iff, decide_eq_false_iff_not]
    by_cases h3 : fz.1 ≤ i
    · exact .inr fun h4 => hf ⟨h3, h4⟩
    · exact .inl h3
  rw [← setCell_eq h]
  cases v <;> first | (simp [cellV] at hv; done) | simp [Go.store, Sem.run, h1, h2]
theorem run_storeCells_free (c : Nat) (e : TypeId) (fz : Nat × Nat) (off : Nat) : ∀ (vs : List Value) (k : Nat) (cs : Array Value) (w : World), w.heap[c]? = some (.cells cs e fz) → off + k + vs.length ≤ cs.size →
    (∀ v ∈ vs, cellV v = true) → (∀ i, i < cs.size → ¬ (fz.1 ≤ i ∧ i < fz.2)) → (storeCells ⟨c, off, none⟩ vs k).run P w = .ok () (World.setB w c (.cells (writeL cs (off + k) vs) e fz))
  | [], k, cs, w, h, _, _, _ => by rw [writeL, setB_self h]; rfl
  | v :: vs, k, cs, w, h, hl, hv, hf => by
    simp only [List.length_cons] at hl
    have hlt : c < w.heap.size := (Array.getElem?_eq_some_iff.1 h).1
    have ih := run_storeCells_free c e fz off vs (k + 1) (cs.setIfInBounds (off + k) v) (World.setB w c (.cells (cs.setIfInBounds (off + k) v) e fz)) (setB_heap hlt) (by simp; omega)
      (fun x hx => hv x (List.mem_cons_of_mem _ hx)) (by simpa using hf)
    simp only [storeCells, Sem.run_bind, addr_add, run_store_at (P := P) h (show off + k < cs.size by omega) (hf _ (by omega)) (hv v (List.mem_cons_self ..)), Result.andThen, ih, setB_setB]
    rfl
/-- a row that is written, cell by cell -/
theorem CellsR.write {m : Im} {t : Cl} {n : Nat} {x : Bool} {cs : Array Value} {fz : Nat × Nat} (h : CellsR ι m t n x cs fz) {l : List AV} {l' : List Value} (hl : VRs ι l l') (hc : l.all AV.cell = true) {p : Nat} (hp : m.s ≤ p) (hn : p + l.length ≤ n) :
    CellsR ι m (putL l p t) n x (writeL cs (p - m.s) l') fz := by
  have h1 := h.size
  have h2 := h.most
  have h3 := h.lim
  refine ⟨by rw [writeL_size]; exact h.size, h.exact', h.most, h.lim, by rw [writeL_size]; exact h.free, ?_⟩
  exact RowS.write h.row hl hc hp (by omega) h.lim (by omega) (by omega) (by omega)
theorem VRs.cellV {l : List AV} {l' : List Value} (h : VRs ι l l') (hc : l.all AV.cell = true) : ∀ x ∈ l', cellV x = true := by
  intro x hx
  obtain ⟨i, hi⟩ := List.mem_iff_getElem?.1 hx
  obtain ⟨v, hv, hr⟩ := h.get' i x hi
  exact hr.cellV (List.all_eq_true.1 hc v (List.mem_of_getElem? hv))
theorem write_ok {gs base : Nat} {H : Hp} {nx : Nat} {w : World} (hst : St gs base ι H nx w.heap) {b : Nat} {m : Im} (hm : ι b = some m) (hl : (row H b).plain = true) {ob : Ob} {o : Obj} (ho : ObR gs ι m ob (some o)) {v v' : AV} {H' : Hp} {nx' : Nat}
    (h : write base ob b v H nx = .val v' H' nx') : v' = v ∧ Stp base ι H nx w ι H' nx' (World.setB w m.c o) ∧ St gs base ι H' nx' (World.setB w m.c o).heap := by
  rw [write, bEl_eq] at h
  split at h
  · rename_i hb
    have hb : base ≤ b := Nat.le_of_ble_eq_true hb
    rw [fN8_eq] at h
    cases h
    exact ⟨rfl, Stp.set hst (hst.lt hm) hb hm hl (o := o) rfl rfl rfl rfl, hst.set (hst.lt hm) hm (Ob.plain_live hl) ho⟩
  · cases h
theorem x_store {ty : TypeId} {a x : Operand} (h : o.op = .store ty a x) : X0R P o (fun base t H nx => xStore P ty a x base (fun _ _ _ _ _ _ => .fail 0) t H nx) := by
  intro gs base ι H nx w t ρ hst hO v H' nx' hv
  have ha := hO a (by rw [h]; exact mem1 rfl)
  have hx := hO x (by rw [h]; exact mem2 rfl)
  simp only [xStore] at hv
  rw [onPtr_eq] at hv
  split at hv
  · rename_i b p e
    rw [e] at ha
    obtain ⟨m, hm, hs, ex⟩ := ha.ptr_inv
    rw [onCellsOb_eq] at hv
    split at hv
    · rename_i c n el xx hr
      obtain ⟨cs, fz, hh, hc⟩ := hst.cells hm hr
      simp only [sizeK] at hv
      rw [oEl_eq] at hv
      split at hv
      · cases hv
      rename_i inf hinf
      obtain ⟨l, hv, hl, _, hcell⟩ := cells_ok hx hv (by simp)
      rw [storeAt, bEl_eq, len_eq] at hv
      split at hv
      · rename_i hlen
        have hlen : l.length = inf.size := Nat.eq_of_beq_eq_true hlen
        rw [bEl_eq] at hv
        split at hv
        · rename_i hle
          have hle : p + inf.size ≤ n := Nat.le_of_ble_eq_true hle
          rw [storeL_eq, if_pos hcell] at hv
          have hcw := hc.write hl hcell hs (by omega)
          obtain ⟨rfl, h1, h2⟩ := write_ok hst hm (by rw [hr]; rfl) (ob := .cells (putL l p c) n el xx) (o := .cells (writeL cs (p - m.s) (ρ x).cells.toList) el fz) ⟨_, _, rfl, hcw⟩ hv
          refine ⟨.skip, undef, _, ι, ?_, .inr ⟨rfl, rfl⟩, .tuple _ _ .nil, h1, h2⟩
          have hl2 := hl.length
          have hsz : (ρ x).cells.size = inf.size := by rw [← Array.length_toList, ← hl2, hlen]
          have hrun := run_storeCells_free (P := P) m.c el fz (p - m.s) (ρ x).cells.toList 0 cs w hh (by have := hc.size; have := hc.most; simp; omega) (hl.cellV hcell) hc.free
          simp only [Nat.add_zero] at hrun
          simp only [execOp, h, Instr.storeAt, ex, Instr.sureAddr, storeVar, Sem.run_bind, Sem.run_pure, Result.andThen, run_sizeOf hinf, hsz]
          simp [hrun]
        · cases hv
      · cases hv
    · cases hv
  · cases hv
theorem upd_ok {kt : TypeId} {d : TypeDesc} (hd : P.underlying kt = some d) {j v : AV} {x y : Value} (hx : VR ι j x) (hy : VR ι v y) : ∀ {es es' : List (AV × AV)} {l : List MapEntry} (i : Nat), ERs ι es l → updM (keyEqD (P.underlying kt)) j v es = some es' →
    (Instr.findNow d x l i = some none ∧ es' = es ++ [(j, v)]) ∨ ∃ n z e, Instr.findNow d x l i = some (some (i + n, z)) ∧ l[n]? = some e ∧ (∀ k, Instr.sameBits k e.key x = true) ∧ n < es.length ∧ es' = es.set n (j, v)
  | _, es', _, i, .nil, h => by cases h; exact .inl ⟨rfl, rfl⟩
  | _, es', _, i, .cons p e l l' hk hv ht, h => by
    change oEl (keyEqD (P.underlying kt) j p.1) none (fun b => bEl b (some ((j, v) :: l)) (oEl (updM (keyEqD (P.underlying kt)) j v l) none fun l => some (p :: l))) = some es' at h
    rw [oEl_eq] at h
    split at h
    · cases h
    · rename_i b hb
      obtain ⟨h1, h1'⟩ := same_ok hd hb hx hk
      rw [bEl_eq] at h
      split at h
      · rename_i hbt
        subst hbt
        cases h
        exact .inr ⟨0, e.val, e, by simp [Instr.findNow, h1], rfl, h1' rfl, by simp, rfl⟩
      · rename_i hbt
        simp only [Bool.not_eq_true] at hbt
        subst hbt
        rw [oEl_eq] at h
        split at h
        · cases h
        · rename_i l2 hl2
          cases h
          rcases upd_ok hd hx hy (i + 1) ht hl2 with ⟨h2, rfl⟩ | ⟨n, z, e', h2, h3, h4, h5, rfl⟩
          · exact .inl ⟨by simp [Instr.findNow, h1, h2], rfl⟩
          · exact .inr ⟨n + 1, z, e', by simp [Instr.findNow, h1, h2]; omega, by simpa using h3, h4, by simp; omega, by simp⟩
theorem ERs.push {es : List (AV × AV)} {l : List MapEntry} (h : ERs ι es l) {p : AV × AV} {e : MapEntry} (hk : VR ι p.1 e.key) (hv : VR ι p.2 e.val) : ERs ι (es ++ [p]) (l ++ [e]) := by
  induction h with
  | nil => exact .cons _ _ _ _ hk hv .nil
  | cons q f l l' h1 h2 ht ih => exact .cons _ _ _ _ h1 h2 ih
theorem ERs.set {es : List (AV × AV)} {l : List MapEntry} (h : ERs ι es l) {p : AV × AV} {e : MapEntry} (hk : VR ι p.1 e.key) (hv : VR ι p.2 e.val) : ∀ n : Nat, ERs ι (es.set n p) (l.set n e) := by
  induction h with
  | nil => intro n; exact .nil
  | cons q f l l' h1 h2 ht ih =>
    intro n
    cases n with
    | zero => exact .cons _ _ _ _ hk hv ht
    | succ n => exact .cons _ _ _ _ h1 h2 (ih n)
theorem setObj_ok {w : World} {c : Nat} {ob o : Obj} (hh : w.heap[c]? = some ob) (hn : ∀ a b d, ob ≠ .cells a b d) : (setObj c o).run P w = .ok () (World.setB w c o) := by
  simp only [setObj, Sem.run, hh]
  cases ob <;> first | rfl | exact absurd rfl (hn _ _ _)
theorem x_update {ty : TypeId} {mp k x : Operand} (h : o.op = .mapUpdate ty mp k x ∨ o.op = .insert ty mp k x) : X0R P o (fun base t H nx => xUpdate P ty mp k x base (fun _ _ _ _ _ _ => .fail 0) t H nx) := by
  intro gs base ι H nx w t ρ hst hO v H' nx' hv
  have hop : opnds o.op = [mp, k, x] := by rcases h with h | h <;> rw [h] <;> rfl
  have hm := hO mp (mem1 hop)
  have hk := hO k (mem2 hop)
  have hx := hO x (mem3 hop)
  simp only [xUpdate, mapK] at hv
  rw [oEl_eq] at hv
  split at hv
  · cases hv
  rename_i q hq
  have hty := mapD_inv hq
  rw [bEl_eq] at hv
  split at hv
  · rename_i hkd
    cases hkt : P.underlying q.1 with
    | none => rw [hkt] at hkd; cases hkd
    | some d =>
      rw [onMap_eq] at hv
      split at hv
      · rename_i b e
        rw [e] at hm
        obtain ⟨m, hmi, ex⟩ := hm.map_inv
        rw [onMapOb_eq] at hv
        split at hv
        · rename_i es hr
          obtain ⟨ents, hh, hes⟩ := hst.ob hmi hr rfl
          rw [fAV_eq, fAV_eq, oEl_eq] at hv
          split at hv
          · cases hv
          rename_i es' hes'
          rw [hkt] at hkd
          have hrun : (execOp ρ o).run P w = ((Instr.mapUpdate ty (ρ mp) (ρ k) (ρ x)).run P w).andThen fun _ w' => .ok .skip w' := by
            rcases h with h | h <;> simp only [execOp, h, Sem.run_bind, Sem.run_pure]
          rcases upd_ok hkt hk hx 0 hes.rel hes' with ⟨h2, rfl⟩ | ⟨n, z, e', h2, h3, h4, h5, rfl⟩
          · have hlen := hes.rel.length
            obtain ⟨rfl, s1, s2⟩ := write_ok hst hmi (by rw [hr]; rfl) (ob := .map (es ++ [(opd k t, opd x t)])) (o := .map (ents.push ⟨ρ k, ρ x, es.length⟩) (es.length + 1)) ⟨ents.push ⟨ρ k, ρ x, es.length⟩, by simp, by
                rw [Array.toList_push]; exact ERs.push (p := (opd k t, opd x t)) (e := ⟨ρ k, ρ x, es.length⟩) hes.rel hk hx, fun i e he => by
                rw [Array.getElem?_push] at he
                split at he
                · cases he; rename_i hi; simp at hlen; show es.length = i; omega
                · exact hes.born i e he⟩ hv
            refine ⟨.skip, undef, _, ι, ?_, .inr ⟨rfl, rfl⟩, .tuple _ _ .nil, s1, s2⟩
            rw [hrun]
            have : (Instr.mapUpdate ty (ρ mp) (ρ k) (ρ x)).run P w = .ok () (World.setB w m.c (.map (ents.push ⟨ρ k, ρ x, es.length⟩) (es.length + 1))) := by
              unfold Instr.mapUpdate
              simp only [Sem.run_bind, run_underlying hty, Result.andThen, ex, getObj_ok hh (fun _ _ _ => by simp), checkKey_ok hkt hkd false 9999 (ρ k) w, Instr.findKey, run_underlying hkt, h2, Sem.run_pure, setObj_ok (P := P) hh (fun _ _ _ => by simp)]
            rw [this]; rfl
          · have hlen := hes.rel.length
            have hn : n < ents.size := by simp at hlen; omega
            have hmod : ents.modify n (fun e => { e with key := ρ k, val := ρ x }) = ents.setIfInBounds n ⟨ρ k, ρ x, n⟩ := by
              apply Array.ext_getElem?
              intro j
              rw [Array.getElem?_modify]
              by_cases ej : n = j
              · subst ej
                rw [if_pos rfl, Array.getElem?_setIfInBounds_self_of_lt hn, Array.getElem?_eq_getElem hn]
                have := hes.born n ents[n] (Array.getElem?_eq_getElem hn)
                simp [this]
              · rw [if_neg ej, Array.getElem?_setIfInBounds_ne ej]
            obtain ⟨rfl, s1, s2⟩ := write_ok hst hmi (by rw [hr]; rfl) (ob := .map (es.set n (opd k t, opd x t))) (o := .map (ents.setIfInBounds n ⟨ρ k, ρ x, n⟩) es.length) ⟨ents.setIfInBounds n ⟨ρ k, ρ x, n⟩, by simp, by
                rw [Array.toList_setIfInBounds]; exact ERs.set (p := (opd k t, opd x t)) (e := ⟨ρ k, ρ x, n⟩) hes.rel hk hx n, fun i e he => by
                by_cases ei : n = i
                · subst ei
                  rw [Array.getElem?_setIfInBounds_self_of_lt hn] at he; cases he; rfl
                · rw [Array.getElem?_setIfInBounds_ne ei] at he; exact hes.born i e he⟩ hv
            refine ⟨.skip, undef, _, ι, ?_, .inr ⟨rfl, rfl⟩, .tuple _ _ .nil, s1, s2⟩
            rw [hrun]
            have : (Instr.mapUpdate ty (ρ mp) (ρ k) (ρ x)).run P w = .ok () (World.setB w m.c (.map (ents.setIfInBounds n ⟨ρ k, ρ x, n⟩) es.length)) := by
              have h3' : ents[n]? = some e' := by rw [← Array.getElem?_toList]; exact h3
              unfold Instr.mapUpdate
              simp only [Sem.run_bind, run_underlying hty, Result.andThen, ex, getObj_ok hh (fun _ _ _ => by simp), checkKey_ok hkt hkd false 9999 (ρ k) w, Instr.findKey, run_underlying hkt, h2, Sem.run_pure, Nat.zero_add, h3', Option.map_some, Option.getD_some, Instr.keyThatStays, h4,
                if_true, setObj_ok (P := P) hh (fun _ _ _ => by simp), hmod]
            rw [this]; rfl
        · cases hv
      · cases hv
  · cases hv
end Go.Abs
namespace Go.Abs
variable {P : Program} {o : Oper} {ι : Inj}
/-- a new row -/
theorem new_ok {gs base : Nat} {H : Hp} {nx : Nat} {w w1 : World} (hst : St gs base ι H nx w.heap) {ob : Ob} {v v' : AV} {H' : Hp} {nx' : Nat} (h : new ob v H nx = .val v' H' nx') {o : Obj} {m : Im} (hm : m.c = w.heap.size)
    (ho : ObR gs (ι.put nx m) m ob (some o)) (hw : w1.heap = w.heap.push o) (h1 : w1.os = w.os) (h2 : w1.output = w.output) (h3 : w1.tape = w.tape) :
    v' = v ∧ Stp base ι H nx w (ι.put nx m) H' nx' w1 ∧ St gs base (ι.put nx m) H' nx' w1.heap := by
  rw [new, bEl_eq] at h
  split at h
  · rename_i hb
    have hb : nx < 262144 := by simpa using hb
    rw [fN8_eq, fNat_eq] at h
    cases h
    exact ⟨rfl, Stp.push hst hb hm hw h1 h2 h3, by rw [hw]; exact hst.push hb hm ho⟩
  · cases h
theorem x_range {ty : TypeId} {x : Operand} (h : o.op = .range ty x) : X0R P o (fun base t H nx => xRange P ty x base (fun _ _ _ _ _ _ => .fail 0) t H nx) := by
  intro gs base ι H nx w t ρ hst hO v H' nx' hv
  have hx := hO x (by rw [h]; exact mem1 rfl)
  simp only [xRange] at hv
  rw [bEl_eq] at hv
  split at hv
  · rename_i hd
    obtain ⟨kt, et, hd⟩ : ∃ kt et, P.underlying ty = some (.map kt et) := by
      unfold mapB at hd; split at hd
      · exact ⟨_, _, by assumption⟩
      · cases hd
    rw [onMap_eq] at hv
    split at hv
    · rename_i b e
      rw [e] at hx
      obtain ⟨m, hmi, ex⟩ := hx.map_inv
      rw [onMapOb_eq] at hv
      split at hv
      · rename_i es hr
        obtain ⟨ents, hh, hes⟩ := hst.ob hmi hr rfl
        have hfr := hst.fresh nx (Nat.le_refl _)
        rw [len_eq] at hv
        obtain ⟨rfl, s1, s2⟩ := new_ok hst hv (m := ⟨w.heap.size, 0, 0⟩) (o := .mapIter (some m.c) es.length #[] es.length) (w1 := w.alloc (.mapIter (some m.c) es.length #[] es.length)) rfl ⟨m, by
          rw [Inj.put_ne (by intro hh; rw [hh] at hmi; rw [hfr] at hmi; cases hmi)]; exact hmi, rfl⟩ rfl rfl rfl rfl
        refine ⟨.value _, .pointer (some ⟨w.heap.size, 0, none⟩), _, _, ?_, .inl rfl, ptr_new (Inj.put_self _ _ _) rfl rfl, s1, s2⟩
        simp only [execOp, h, Instr.range, Sem.run_bind, run_underlying hd, Result.andThen, ex, getObj_ok hh (fun _ _ _ => by simp), Sem.run_pure]
        rfl
      · cases hv
    · rw [onNilMap_eq] at hv
      split at hv
      · rename_i e
        rw [e] at hx
        have ex := hx.nilMap_inv
        obtain ⟨rfl, s1, s2⟩ := new_ok hst hv (m := ⟨w.heap.size, 0, 0⟩) (o := .mapIter none 0 #[] 0) (w1 := w.alloc (.mapIter none 0 #[] 0)) rfl rfl rfl rfl rfl rfl
        refine ⟨.value _, .pointer (some ⟨w.heap.size, 0, none⟩), _, _, ?_, .inl rfl, ptr_new (Inj.put_self _ _ _) rfl rfl, s1, s2⟩
        simp only [execOp, h, Instr.range, Sem.run_bind, run_underlying hd, Result.andThen, ex, Sem.run_pure]
        rfl
      · cases hv
  · cases hv
theorem decode_ascii {s : ByteArray} {i : Nat} {a : Nat} (h : (bytesOf s)[i]? = some a) (ha : a < 128) : i < s.size ∧ Utf8.decode s i = (a, 1) := by
  rw [bytesOf, List.getElem?_map] at h
  simp only [Option.map_eq_some_iff] at h
  obtain ⟨u, hu, rfl⟩ := h
  rw [Array.getElem?_toList] at hu
  obtain ⟨hlt, he⟩ := Array.getElem?_eq_some_iff.1 hu
  have hget : s.get! i = u := by
    show s.data[i]! = u
    rw [getElem!_pos s.data i hlt, he]
  refine ⟨hlt, ?_⟩
  unfold Utf8.decode
  simp only [Nat.add_zero, hget]
  rw [if_pos (by omega)]
theorem nextS_ok {gs base : Nat} {H : Hp} {nx : Nat} {w : World} (hst : St gs base ι H nx w.heap) {b : Nat} {m : Im} (hm : ι b = some m) {s : List Nat} {pos : Nat} (hr : row H b = .sit s pos) {v : AV} {H' : Hp} {nx' : Nat} (h : nextS base b s pos H nx = .val v H' nx') (ty : TypeId) :
    ∃ x w', (Instr.next (.pointer (some ⟨m.c, 0, none⟩)) true ty).run P w = .ok x w' ∧ VR ι v x ∧ Stp base ι H nx w ι H' nx' w' ∧ St gs base ι H' nx' w'.heap := by
  obtain ⟨bs, hh, hbs⟩ := hst.ob hm hr rfl
  rw [nextS, lEl_eq, drp_eq] at h
  have hsz : s.length = bs.size := by rw [← hbs, bytes_length]
  split at h
  · rename_i hd
    cases h
    have : ¬ pos < bs.size := by
      have := List.drop_eq_nil_iff.1 hd; omega
    refine ⟨.tuple #[.bool false], w, ?_, .tuple _ _ (.cons _ _ _ _ (.bool _) .nil), .refl .., hst⟩
    simp only [Instr.next, Sem.run_bind, getObj_ok hh (fun _ _ _ => by simp), Result.andThen, if_neg this, Sem.run_pure]
  · rename_i a l hd
    rw [bEl_eq] at h
    split at h
    · rename_i ha
      have ha : a < 128 := by simpa using ha
      rw [fNat_eq] at h
      have hget : (bytesOf bs)[pos]? = some a := by
        rw [hbs]
        have := congrArg (·[0]?) hd
        simpa using this
      obtain ⟨hlt, hdec⟩ := decode_ascii hget ha
      obtain ⟨rfl, s1, s2⟩ := write_ok hst hm (by rw [hr]; rfl) (ob := .sit s (pos + 1)) (o := .stringIter bs (pos + 1)) ⟨bs, rfl, hbs⟩ h
      refine ⟨.tuple #[.bool true, goInt pos, .int .i32 a], _, ?_, .tuple _ _ (.cons _ _ _ _ (.bool _) (.cons _ _ _ _ (.int _ _) (.cons _ _ _ _ (.int _ _) .nil))), s1, s2⟩
      simp only [Instr.next, Sem.run_bind, getObj_ok hh (fun _ _ _ => by simp), Result.andThen, if_pos hlt, Sem.run_pure, hdec, setObj_ok (P := P) hh (fun _ _ _ => by simp)]
    · cases h
end Go.Abs
namespace Go.Abs
variable {P : Program} {o : Oper} {ι : Inj}
theorem memN_eq (a : Nat) : ∀ l : List Nat, memN a l = l.contains a
  | [] => rfl
  | x :: l => by
    show bEl (Nat.beq a x) true (memN a l) = _
    rw [bEl_eq, memN_eq a l, List.contains_cons]
    by_cases h : a = x
    · subst h; simp
    · have h1 : Nat.beq a x = false := by rw [← Bool.not_eq_true, Nat.beq_eq]; exact h
      have h2 : (a == x) = false := by simpa using h
      rw [h1, h2]; simp
noncomputable def leftF (seen : List Nat) (n : Nat) : Nat → List Nat := Nat.rec (motive := fun _ => Nat → List Nat) (fun _ => []) (fun _ ih i => bEl (memN i seen) (ih (Nat.succ i)) (fNat i fun i => i :: ih (Nat.succ i))) n
theorem leftF_eq (seen : List Nat) : ∀ n k, leftF seen n k = (List.range' k n).filter fun i => !seen.contains i
  | 0, k => rfl
  | n + 1, k => by
    show bEl (memN k seen) (leftF seen n (k + 1)) (fNat k fun i => i :: leftF seen n (i + 1)) = _
    rw [bEl_eq, memN_eq, fNat_eq, leftF_eq seen n (k + 1), List.range'_succ, List.filter_cons]
    by_cases h : seen.contains k = true
    · rw [if_pos h, if_neg (by rw [h]; simp)]
    · rw [if_neg h, if_pos (by simp only [Bool.not_eq_true] at h; rw [h]; rfl)]
theorem left_eq (seen : List Nat) (n : Nat) : left seen n = (List.range n).filter fun i => !seen.contains i := by
  rw [List.range_eq_range']; exact leftF_eq seen n 0
theorem filter_seen {ents : Array MapEntry} (hb : ∀ (i : Nat) (e : MapEntry), ents[i]? = some e → e.born = i) (p : Nat → Bool) :
    (ents.filter fun e => p e.born).toList = ((List.range ents.size).filter p).map fun i => ents[i]! := by
  have e1 : ents.toList = (List.range ents.size).map fun i => ents[i]! := by
    apply List.ext_getElem?
    intro i
    by_cases hi : i < ents.size
    · rw [List.getElem?_map, List.getElem?_range hi]
      simp only [Option.map_some]
      rw [getElem!_pos ents i hi, Array.getElem?_toList, Array.getElem?_eq_getElem hi]
    · rw [List.getElem?_eq_none (by simp; omega), List.getElem?_eq_none (by simp; omega)]
  rw [Array.toList_filter, e1, List.filter_map]
  congr 1
  apply List.filter_congr
  intro i hi
  have hi : i < ents.size := by simpa using hi
  show p (ents[i]!).born = p i
  rw [getElem!_pos ents i hi, hb i _ (Array.getElem?_eq_getElem hi)]
/-- a step of an iteration over a map that has no new entries -/
theorem next_map {w : World} {c mc since : Nat} {seen : Array Nat} {ents : Array MapEntry} (hh : w.heap[c]? = some (.mapIter (some mc) since seen since)) (hm : w.heap[mc]? = some (.map ents since)) (hs : ents.size = since)
    (hb : ∀ (i : Nat) (e : MapEntry), ents[i]? = some e → e.born = i) (ty : TypeId) :
    let L := (List.range since).filter fun i => !seen.contains i
    (L = [] → (Instr.next (.pointer (some ⟨c, 0, none⟩)) false ty).run P w = .ok (.tuple #[.bool false]) w) ∧
    (L ≠ [] → ∃ i ∈ L, ∃ d e, ents[i]? = some e ∧ (Instr.next (.pointer (some ⟨c, 0, none⟩)) false ty).run P w = .ok (.tuple #[.bool true, e.key, e.val]) (World.setB { w with drawn := d } c (.mapIter (some mc) since (seen.push i) since))) := by
  subst hs
  intro L
  have h0 : (!seen.isEmpty && !ents.isEmpty && ents.all (fun x => decide (x.born ≥ ents.size))) = false := by
    by_cases he : ents.size = 0
    · have : ents.isEmpty = true := by simpa [Array.isEmpty] using he
      simp [this]
    · have h1 : ents.all (fun x => decide (x.born ≥ ents.size)) = false := by
        rw [← Bool.not_eq_true, Array.all_eq_true]
        intro hall
        have := hall 0 (by omega)
        have hb0 := hb 0 _ (Array.getElem?_eq_getElem (show 0 < ents.size by omega))
        simp only [hb0, decide_eq_true_eq] at this
        omega
      rw [h1]; simp
  have hleft : (ents.filter fun e => !seen.contains e.born) = (L.map fun i => ents[i]!).toArray := by
    apply Array.toList_inj.1
    rw [filter_seen hb (fun i => !seen.contains i)]
  have hlt : ∀ i ∈ L, i < ents.size := fun i hi => by
    have := List.mem_filter.1 hi; simpa using this.1
  have hbn : ∀ i ∈ L, (ents[i]!).born = i := fun i hi => by
    rw [getElem!_pos ents i (hlt i hi)]; exact hb i _ (Array.getElem?_eq_getElem (hlt i hi))
  have hold : ((L.map fun i => ents[i]!).toArray.filter fun x => decide (x.born < ents.size)) = (L.map fun i => ents[i]!).toArray := by
    rw [Array.filter_eq_self]
    intro a ha
    simp only [List.mem_toArray, List.mem_map] at ha
    obtain ⟨i, hi, rfl⟩ := ha
    rw [hbn i hi]; simpa using hlt i hi
  have hnew : ((L.map fun i => ents[i]!).toArray.filter fun x => decide (x.born ≥ ents.size)) = #[] := by
    rw [Array.filter_eq_empty_iff]
    intro a ha
    simp only [List.mem_toArray, List.mem_map] at ha
    obtain ⟨i, hi, rfl⟩ := ha
    rw [hbn i hi]; have := hlt i hi; simp; omega
  have hpre : ∀ w' : World, w' = w → (Instr.next (.pointer (some ⟨c, 0, none⟩)) false ty).run P w' = (do
      let candidates := (if (L.map fun i => ents[i]!).toArray.isEmpty then #[none] else #[]) ++ ((L.map fun i => ents[i]!).toArray ++ #[]).map some
      match candidates[← choose (.mapNext candidates.size)]? with
      | some (some e) =>
        setObj c (.mapIter (some mc) ents.size (seen.push e.born) ents.size)
        pure (.tuple #[.bool true, e.key, e.val])
      | some none => pure (.tuple #[.bool false])
      | none => stuck "Next: no such candidate" : Sem Value).run P w' := by
    rintro w' rfl
    unfold Instr.next
    simp only [Sem.run_bind, getObj_ok hh (fun _ _ _ => by simp), Result.andThen, getObj_ok hm (fun _ _ _ => by simp), h0, hleft, hold, hnew]
    rw [if_neg (by simp), Sem.run_bind]
    rfl
  constructor
  · intro hL
    rw [hpre w rfl, hL]
    have hch : (choose (.mapNext 1)).run P w = .ok 0 w := by simp [choose, Sem.run, Question.forced]
    have hcand : ((if (([] : List Nat).map fun i => ents[i]!).toArray.isEmpty then #[none] else #[]) ++ ((([] : List Nat).map fun i => ents[i]!).toArray ++ #[]).map some : Array (Option MapEntry)) = #[none] := by simp
    simp only [hcand]
    have hsz : (#[none] : Array (Option MapEntry)).size = 1 := rfl
    rw [hsz, Sem.run_bind, hch]
    rfl
  · intro hL
    rw [hpre w rfl]
    have hne : (L.map fun i => ents[i]!).toArray.isEmpty = false := by
      rw [← Bool.not_eq_true]
      intro h
      apply hL
      simpa using h
    have hcand : ((if (L.map fun i => ents[i]!).toArray.isEmpty then #[none] else #[]) ++ ((L.map fun i => ents[i]!).toArray ++ #[]).map some : Array (Option MapEntry)) = (L.map fun i => some ents[i]!).toArray := by
      rw [hne]
      simp
    have hpos : 0 < L.length := List.length_pos_iff.2 hL
    have hch : ∃ idx d, idx < L.length ∧ (choose (.mapNext L.length)).run P w = .ok idx { w with drawn := d } := by
      by_cases h1 : L.length ≤ 1
      · exact ⟨0, w.drawn, hpos, by simp [choose, Sem.run, Question.forced, h1]⟩
      · exact ⟨_, w.drawn + 1, Nat.mod_lt _ hpos, by simp [choose, Sem.run, Question.forced, h1, Question.cut]; rfl⟩
    obtain ⟨idx, d, hidx, hch⟩ := hch
    refine ⟨L[idx], List.getElem_mem hidx, d, ents[L[idx]]!, ?_, ?_⟩
    · have := hlt _ (List.getElem_mem hidx)
      rw [getElem!_pos ents _ this, Array.getElem?_eq_getElem this]
    · simp only [hcand]
      have hsz : (L.map fun i => some ents[i]!).toArray.size = L.length := by simp
      rw [hsz, Sem.run_bind, hch]
      have hget : (L.map fun i => some ents[i]!).toArray[idx]? = some (some ents[L[idx]]!) := by simp [hidx]
      simp only [Result.andThen, hget, Sem.run_bind]
      rw [hbn _ (List.getElem_mem hidx)]
      have hset := setObj_ok (P := P) (w := { w with drawn := d }) (c := c) (o := .mapIter (some mc) ents.size (seen.push L[idx]) ents.size) hh (fun _ _ _ => by simp)
      rw [hset]; rfl
theorem St.drawn {gs base : Nat} {H : Hp} {nx : Nat} {w : World} (h : St gs base ι H nx w.heap) (d : Nat) : St gs base ι H nx ({ w with drawn := d } : World).heap := h
theorem Stp.drawn {base : Nat} {H : Hp} {nx : Nat} (w : World) (d : Nat) : Stp base ι H nx w ι H nx { w with drawn := d } := ⟨.refl _, Nat.le_refl _, Nat.le_refl _, fun _ _ _ => rfl, fun _ _ h => h, rfl, rfl, rfl, fun _ _ => rfl, fun _ _ _ _ _ h => ⟨h, fun _ _ _ => rfl⟩⟩
theorem contains_rev (seen : List Nat) (i : Nat) : seen.reverse.toArray.contains i = seen.contains i := by
  rw [Bool.eq_iff_iff]; simp
theorem nextM_ok {gs base : Nat} {H : Hp} {nx : Nat} {w : World} (hst : St gs base ι H nx w.heap) {b mb : Nat} {m : Im} (hm : ι b = some m) {since st : Nat} {seen : List Nat} (hr : row H b = .mit mb since seen st) {es : List (AV × AV)} (hr2 : row H mb = .map es) {v : AV} {H' : Hp} {nx' : Nat}
    (h : nextM base b mb since seen st es H nx = .val v H' nx') (ty : TypeId) :
    ∃ x w', (Instr.next (.pointer (some ⟨m.c, 0, none⟩)) false ty).run P w = .ok x w' ∧ VR ι v x ∧ Stp base ι H nx w ι H' nx' w' ∧ St gs base ι H' nx' w'.heap := by
  obtain ⟨m', hm', hh⟩ := hst.ob hm hr rfl
  obtain ⟨ents, hh2, hes⟩ := hst.ob hm' hr2 rfl
  have hlen := hes.rel.length
  rw [nextM, bEl_eq, band_eq] at h
  split at h
  · rename_i hc
    rw [Bool.and_eq_true, len_eq] at hc
    have h1 : es.length = since := Nat.eq_of_beq_eq_true hc.1
    have h2 : st = since := Nat.eq_of_beq_eq_true hc.2
    subst h2
    have hsz : ents.size = st := by simp at hlen; omega
    rw [h1] at hh2
    obtain ⟨n1, n2⟩ := next_map (P := P) hh hh2 hsz hes.born ty
    have hL : ((List.range st).filter fun i => !seen.reverse.toArray.contains i) = left seen st := by
      rw [left_eq]; apply List.filter_congr; intro i _; rw [contains_rev]
    rw [hL] at n1 n2
    rw [lEl_eq] at h
    split at h
    · rename_i hnil
      cases h
      exact ⟨_, _, n1 hnil, .tuple _ _ (.cons _ _ _ _ (.bool _) .nil), .refl .., hst⟩
    · rename_i i l hcons
      rw [lEl_eq] at h
      split at h
      · rw [oEl_eq, nth_eq] at h
        split at h
        · cases h
        rename_i q hq
        obtain ⟨j, hj, d, e, he, hrun⟩ := n2 (by rw [hcons]; simp)
        rw [hcons, List.mem_singleton] at hj
        subst hj
        obtain ⟨e', he', hk, hv⟩ := hes.rel.get j q hq
        rw [Array.getElem?_toList, he] at he'
        cases he'
        obtain ⟨rfl, s1, s2⟩ := write_ok (w := { w with drawn := d }) (hst.drawn d) hm (by rw [hr]; rfl) (ob := .mit mb st (j :: seen) st) (o := .mapIter (some m'.c) st (seen.reverse.toArray.push j) st) ⟨m', hm', by simp⟩ h
        exact ⟨_, _, hrun, .tuple _ _ (.cons _ _ _ _ (.bool _) (.cons _ _ _ _ hk (.cons _ _ _ _ hv .nil))), (Stp.drawn w d).trans s1, s2⟩
      · cases h
  · cases h
theorem x_next {it : Operand} {str : Bool} (h : o.op = .next it str) : X0R P o (fun base t H nx => xNext it str base (fun _ _ _ _ _ _ => .fail 0) t H nx) := by
  intro gs base ι H nx w t ρ hst hO v H' nx' hv
  have hx := hO it (by rw [h]; exact mem1 rfl)
  simp only [xNext] at hv
  rw [onPtr_eq] at hv
  split at hv
  · rename_i b p e
    rw [e] at hx
    obtain ⟨m, hm, hs, ex⟩ := hx.ptr_inv
    rw [nEl_eq] at hv
    split at hv
    · have hs0 : (0 - m.s) = 0 := by omega
      rw [hs0] at ex
      have fin : (∃ x w', (Instr.next (.pointer (some ⟨m.c, 0, none⟩)) str o.type).run P w = .ok x w' ∧ VR ι v x ∧ Stp base ι H nx w ι H' nx' w' ∧ St gs base ι H' nx' w'.heap) →
          ∃ (n : Next) (x : Value) (w' : World) (ι' : Inj), (execOp ρ o).run P w = .ok n w' ∧ (n = .value x ∨ (n = .skip ∧ x = undef)) ∧ VR ι' v x ∧ Stp base ι H nx w ι' H' nx' w' ∧ St gs base ι' H' nx' w'.heap := by
        rintro ⟨x, w', h1, h2, h3, h4⟩
        refine ⟨.value x, x, w', ι, ?_, .inl rfl, h2, h3, h4⟩
        simp only [execOp, h, ex, Sem.run_bind, h1, Result.andThen, Sem.run_pure]
      rw [bEl_eq] at hv
      split at hv
      · rename_i hstr
        subst hstr
        rw [onSitOb_eq] at hv
        split at hv
        · rename_i s pos hr
          exact fin (nextS_ok hst hm hr hv o.type)
        · cases hv
      · rename_i hstr
        simp only [Bool.not_eq_true] at hstr
        subst hstr
        rw [onMitOb_eq] at hv
        split at hv
        · rename_i mb since seen st hr
          rw [onMapOb_eq] at hv
          split at hv
          · rename_i es hr2
            exact fin (nextM_ok hst hm hr hr2 hv o.type)
          · cases hv
        · rw [onMit0Ob_eq] at hv
          split at hv
          · rename_i hr
            cases hv
            have hh : w.heap[m.c]? = some (.mapIter none 0 #[] 0) := hst.ob hm hr rfl
            refine fin ⟨.tuple #[.bool false], w, ?_, .tuple _ _ (.cons _ _ _ _ (.bool _) .nil), .refl .., hst⟩
            simp only [Instr.next, Sem.run_bind, getObj_ok hh (fun _ _ _ => by simp), Result.andThen, Sem.run_pure]
          · cases hv
    · cases hv
  · cases hv
end Go.Abs
namespace Go.Abs
variable {P : Program} {o : Oper} {ι : Inj}
theorem loadN_take (t : Cl) (k k' p : Nat) (h : k' ≤ k) : (loadN t k p).take k' = loadN t k' p := by
  rw [loadN_eq, loadN_eq, ← List.map_take, List.take_range, Nat.min_eq_left h]
theorem loadN_length (t : Cl) (k p : Nat) : (loadN t k p).length = k := by rw [loadN_eq]; simp
theorem bytesV_ok (s : ByteArray) (n : Nat) : VRs ι ((mapL byteV (bytesOf s)).take n) ((s.extract 0 n).data.map fun b => Value.int .u8 b.toNat).toList := by
  rw [mapL_eq, bytesOf, List.map_map, ← List.map_take]
  rw [Array.toList_map, ByteArray.data_extract, Array.toList_extract, List.extract_eq_take_drop, Nat.sub_zero, List.drop_zero]
  generalize s.data.toList.take n = l
  induction l with
  | nil => exact .nil
  | cons b l ih => exact .cons _ _ _ _ (.int _ _) ih
/-- what is appended or copied -/
theorem source_ok {gs base : Nat} {H : Hp} {nx : Nat} {w : World} (hst : St gs base ι H nx w.heap) {sz : Nat} {x : AV} {vx : Value} (hx : VR ι x vx) {β : Type} {d r : β} {k : Nat → List AV → β} (h : sourceK H sz x d k = r) (hd : d ≠ r) :
    ∃ n news, k n news = r ∧ news.length = n * sz ∧ news.all AV.cell = true ∧ (∀ w', (Builtin.lenOf vx).run P w' = .ok n w') ∧
      ∀ n', n' ≤ n → ∃ cs : Array Value, (∀ w', w'.heap = w.heap → (Builtin.firstCells sz n' vx).run P w' = .ok cs w') ∧ VRs ι (news.take (n' * sz)) cs.toList := by
  rw [sourceK, onSlice_eq] at h
  split at h
  · rename_i b p l c
    obtain ⟨m, a, cap, hm, hc, hl, haa, rfl⟩ := hx.slice_inv
    rw [nEl_eq] at h
    split at h
    · refine ⟨0, [], h, by simp, rfl, fun w' => rfl, fun n' hn' => ⟨#[], fun w' _ => ?_, ?_⟩⟩
      · obtain rfl : n' = 0 := by omega
        simp only [Builtin.firstCells, Nat.zero_mul]; rfl
      · simpa using VRs.nil
    · rename_i l'
      rw [onCellsOb_eq] at h
      split at h
      · rename_i t n el xx hr
        obtain ⟨cs, fz, hh, hcr⟩ := hst.cells hm hr
        rw [bEl_eq] at h
        split at h
        · rename_i hle
          have hle : p + (l' + 1) * sz ≤ n := Nat.le_of_ble_eq_true hle
          obtain ⟨h1, h2⟩ := haa (by omega)
          obtain ⟨_, _, _, hcell, _⟩ := hcr.row.load h2 hle
          refine ⟨l' + 1, _, h, loadN_length _ _ _, List.all_eq_true.2 hcell, fun w' => rfl, fun n' hn' => ?_⟩
          have hle' : n' * sz ≤ (l' + 1) * sz := Nat.mul_le_mul_right _ hn'
          obtain ⟨ls, e1, e2, e3, e4⟩ := hcr.row.load h2 (k := n' * sz) (by omega)
          refine ⟨ls.toArray, fun w' hw => ?_, ?_⟩
          · simp only [Builtin.firstCells, h1]
            rw [← e1]
            refine run_loadCells_list w' _ ls fun j y hj => ?_
            rw [addr_add, cell_at (w := w') (by rw [hw]; exact hh)]; exact e4 j y hj
          · rw [show l'.succ.mul sz = (l' + 1) * sz from rfl, loadN_take _ _ _ _ hle']; simpa using e2
        · exact absurd h hd
      · exact absurd h hd
  · rw [onStr_eq] at h
    split at h
    · rename_i s
      obtain ⟨bs, rfl, hb⟩ := hx.str_inv
      rw [bEl_eq] at h
      split at h
      · rename_i hsz
        obtain rfl : sz = 1 := Nat.eq_of_beq_eq_true hsz
        subst hb
        rw [len_eq, bytes_length] at h
        refine ⟨bs.size, _, h, by rw [mapL_eq, List.length_map, bytes_length, Nat.mul_one], ?_, fun w' => rfl, fun n' hn' => ⟨_, fun w' _ => rfl, ?_⟩⟩
        · rw [mapL_eq, List.all_map, List.all_eq_true]; intro b _; rfl
        · rw [Nat.mul_one]; exact bytesV_ok bs n'
      · exact absurd h hd
    · rw [onNilSlice_eq] at h
      split at h
      · have := hx.nilSlice_inv; subst this
        refine ⟨0, [], h, by simp, rfl, fun w' => rfl, fun n' hn' => ⟨#[], fun w' _ => rfl, by simpa using VRs.nil⟩⟩
      · exact absurd h hd
theorem VRs.take_all {l : List AV} {l' : List Value} {n : Nat} (h : VRs ι (l.take n) l') (hn : l.length ≤ n) : VRs ι l l' := by rwa [List.take_of_length_le hn] at h
theorem x_copy {c : Call} {ty : TypeId} {x y : Operand} (h : o.op = .call c) (hb : c.callee = .builtin .copy) (ht : c.argTypes[0]? = some ty) (ha : c.args.toList = [x, y]) :
    X0R P o (fun base t H nx => x2 (fun base d x => bCopy P base ty d x) x y base (fun _ _ _ _ _ _ => .fail 0) t H nx) := by
  intro gs base ι H nx w t ρ hst hO v H' nx' hv
  have hx := hO x (by rw [opnds_call h hb, ha]; exact List.mem_cons_self ..)
  have hy := hO y (by rw [opnds_call h hb, ha]; exact List.mem_cons_of_mem _ (List.mem_cons_self ..))
  obtain ⟨cs0, hrun⟩ := run_blt (P := P) h hb ρ
  rw [args2 ha] at hrun
  have fin : (∃ r w', (Builtin.copy_ c.argTypes o.type #[ρ x, ρ y]).run P w = .ok r w' ∧ VR ι v r ∧ Stp base ι H nx w ι H' nx' w' ∧ St gs base ι H' nx' w'.heap) →
      ∃ (n : Next) (x : Value) (w' : World) (ι' : Inj), (execOp ρ o).run P w = .ok n w' ∧ (n = .value x ∨ (n = .skip ∧ x = undef)) ∧ VR ι' v x ∧ Stp base ι H nx w ι' H' nx' w' ∧ St gs base ι' H' nx' w'.heap := by
    rintro ⟨r, w', h1, h2, h3, h4⟩
    refine ⟨.value r, r, w', ι, ?_, .inl rfl, h2, h3, h4⟩
    rw [hrun]
    simp only [builtin, Sem.run_bind, h1, Result.andThen, Sem.run_pure]
  simp only [x2, bCopy] at hv
  obtain ⟨e, inf, hty, hinf, hv⟩ := elemK_ok hv (by simp)
  rw [onSlice_eq] at hv
  split at hv
  · rename_i b p l k e1
    rw [e1] at hx
    obtain ⟨m, a, cap, hm, hc, hl, haa, ex⟩ := hx.slice_inv
    obtain ⟨n, news, hv, hlen, hcell, hlenOf, hfirst⟩ := source_ok (P := P) hst hy hv (by simp)
    rw [fNat_eq] at hv
    have hmin : bEl (Nat.ble n l) n l = Nat.min n l := by
      rw [bEl_eq]; split
      · rename_i h1; exact (Nat.min_eq_left (Nat.le_of_ble_eq_true h1)).symm
      · rename_i h1; rw [Nat.ble_eq] at h1; exact (Nat.min_eq_right (by omega)).symm
    rw [hmin] at hv
    obtain ⟨cs, hf, hcs⟩ := hfirst (Nat.min n l) (Nat.min_le_left ..)
    have hpre : (Builtin.copy_ c.argTypes o.type #[ρ x, ρ y]).run P w = ((storeCells a cs.toList).run P w).andThen fun _ w' => .ok (goInt (Nat.min n l)) w' := by
      unfold Builtin.copy_
      simp only [ht, ex, List.getElem?_toArray, List.getElem?_cons_zero, List.getElem?_cons_succ, Sem.run_bind, run_underlying hty, Result.andThen, hlenOf, run_sizeOf hinf, hf w rfl, Sem.run_pure]
    rw [nEl_eq] at hv
    split at hv
    · rename_i hz
      cases hv
      rw [hz] at hpre hcs
      have : cs.toList = [] := by
        have hl0 := hcs.length
        rw [Nat.zero_mul, List.take_zero] at hl0
        exact List.length_eq_zero_iff.1 hl0.symm
      refine fin ⟨_, w, ?_, .int _ _, .refl .., hst⟩
      rw [hpre, this]; rfl
    · rename_i n0 hz
      rw [onCellsOb_eq] at hv
      split at hv
      · rename_i t' nn el xx hr
        obtain ⟨rcs, fz, hh, hcr⟩ := hst.cells hm hr
        rw [bEl_eq] at hv
        split at hv
        · rename_i hle
          have hle : p + Nat.min n l * inf.size ≤ nn := Nat.le_of_ble_eq_true hle
          have hpos : 0 < Nat.min n l := by omega
          have hll : Nat.min n l ≤ l := Nat.min_le_right ..
          obtain ⟨h1, h2⟩ := haa (by omega)
          rw [tke_eq, storeL_eq, show (Nat.min n l).mul inf.size = Nat.min n l * inf.size from rfl] at hv
          have hcell' : (news.take (Nat.min n l * inf.size)).all AV.cell = true := List.all_eq_true.2 fun v hv => List.all_eq_true.1 hcell v (List.mem_of_mem_take hv)
          rw [if_pos hcell'] at hv
          have htl : (news.take (Nat.min n l * inf.size)).length ≤ Nat.min n l * inf.size := by simp; omega
          have hcw := hcr.write hcs hcell' h2 (by omega)
          obtain ⟨rfl, s1, s2⟩ := write_ok hst hm (by rw [hr]; rfl) (ob := .cells (putL (news.take (Nat.min n l * inf.size)) p t') nn el xx) (o := .cells (writeL rcs (p - m.s) cs.toList) el fz) ⟨_, _, rfl, hcw⟩ hv
          have hrs := run_storeCells_free (P := P) m.c el fz (p - m.s) cs.toList 0 rcs w hh (by have := hcr.size; have := hcr.most; have := hcs.length; omega) (hcs.cellV hcell') hcr.free
          simp only [Nat.add_zero] at hrs
          refine fin ⟨_, _, ?_, .int _ _, s1, s2⟩
          rw [hpre, h1, hrs]; rfl
        · cases hv
      · cases hv
  · rw [onNilSlice_eq] at hv
    split at hv
    · rename_i e1
      rw [e1] at hx
      have ex := hx.nilSlice_inv
      obtain ⟨n, news, hv, hlen, hcell, hlenOf, hfirst⟩ := source_ok (P := P) hst hy hv (by simp)
      cases hv
      obtain ⟨cs, hf, hcs⟩ := hfirst 0 (Nat.zero_le _)
      refine fin ⟨goInt 0, w, ?_, .int _ _, .refl .., hst⟩
      unfold Builtin.copy_
      have hmin : Nat.min n 0 = 0 := Nat.min_zero n
      simp only [ht, ex, List.getElem?_toArray, List.getElem?_cons_zero, List.getElem?_cons_succ, Sem.run_bind, run_underlying hty, Result.andThen, hlenOf, run_sizeOf hinf, hmin, hf w rfl, Sem.run_pure]
      rfl
    · cases hv
theorem x_clear {c : Call} {ty : TypeId} {x : Operand} (h : o.op = .call c) (hb : c.callee = .builtin .clear) (ht : c.argTypes[0]? = some ty) (ha : c.args.toList = [x]) :
    X0R P o (fun base t H nx => x1 (fun base d => bClear P base ty d) x base (fun _ _ _ _ _ _ => .fail 0) t H nx) := by
  intro gs base ι H nx w t ρ hst hO v H' nx' hv
  have hx := hO x (by rw [opnds_call h hb, ha]; exact List.mem_cons_self ..)
  obtain ⟨cs0, hrun⟩ := run_blt (P := P) h hb ρ
  rw [args1 ha] at hrun
  have fin : (∃ w', (Builtin.clear_ c.argTypes o.type #[ρ x]).run P w = .ok (.tuple #[]) w' ∧ v = unit ∧ Stp base ι H nx w ι H' nx' w' ∧ St gs base ι H' nx' w'.heap) →
      ∃ (n : Next) (x : Value) (w' : World) (ι' : Inj), (execOp ρ o).run P w = .ok n w' ∧ (n = .value x ∨ (n = .skip ∧ x = undef)) ∧ VR ι' v x ∧ Stp base ι H nx w ι' H' nx' w' ∧ St gs base ι' H' nx' w'.heap := by
    rintro ⟨w', h1, rfl, h3, h4⟩
    refine ⟨.value (.tuple #[]), _, w', ι, ?_, .inl rfl, .tuple _ _ .nil, h3, h4⟩
    rw [hrun]
    simp only [builtin, Sem.run_bind, h1, Result.andThen, Sem.run_pure]
  simp only [x1, bClear] at hv
  obtain ⟨e, inf, hty, hinf, hv⟩ := elemK_ok hv (by simp)
  rw [onSlice_eq] at hv
  split at hv
  · rename_i b p l k e1
    rw [e1] at hx
    obtain ⟨m, a, cap, hm, hc, hl, haa, ex⟩ := hx.slice_inv
    rw [nEl_eq] at hv
    split at hv
    · cases hv
      refine fin ⟨w, ?_, rfl, .refl .., hst⟩
      unfold Builtin.clear_
      simp only [ht, ex, List.getElem?_toArray, List.getElem?_cons_zero, Sem.run_bind, run_underlying hty, Result.andThen, Sem.run_pure]
    · rename_i l0
      rw [onCellsOb_eq] at hv
      split at hv
      · rename_i t' nn el xx hr
        obtain ⟨rcs, fz, hh, hcr⟩ := hst.cells hm hr
        rw [bEl_eq] at hv
        split at hv
        · rename_i hle
          have hle : p + (l0 + 1) * inf.size ≤ nn := Nat.le_of_ble_eq_true hle
          obtain ⟨inf', zv, hinf', hzv, hzs, zs, hv, hzr, hzc, hzl⟩ := zerosK_ok (ι := ι) hv (by simp)
          rw [hinf] at hinf'; cases hinf'
          rw [Nat.succ_eq_add_one] at hzr hzl
          obtain ⟨h1, h2⟩ := haa (by omega)
          rw [storeL_eq, if_pos hzc] at hv
          have hcw := hcr.write hzr hzc h2 (by omega)
          obtain ⟨rfl, s1, s2⟩ := write_ok hst hm (by rw [hr]; rfl) (ob := .cells (putL zs p t') nn el xx) (o := .cells (writeL rcs (p - m.s) ((Array.range ((l0 + 1) * inf.size)).map (zv.cells[· % zv.cells.size]!)).toList) el fz) ⟨_, _, rfl, hcw⟩ hv
          have hrs := run_storeCells_free (P := P) m.c el fz (p - m.s) ((Array.range ((l0 + 1) * inf.size)).map (zv.cells[· % zv.cells.size]!)).toList 0 rcs w hh (by have := hcr.size; have := hcr.most; have := hzr.length; omega) (hzr.cellV hzc) hcr.free
          simp only [Nat.add_zero] at hrs
          refine fin ⟨_, ?_, rfl, s1, s2⟩
          unfold Builtin.clear_
          have hz2 : Builtin.zeroCells zv.cells (l0 + 1) = (Array.range ((l0 + 1) * inf.size)).map (zv.cells[· % zv.cells.size]!) := by rw [← hzs]; rfl
          simp only [ht, ex, List.getElem?_toArray, List.getElem?_cons_zero, Sem.run_bind, run_underlying hty, Result.andThen, run_zeroValue hinf hzv, hz2, h1, hrs, Sem.run_pure]
        · cases hv
      · cases hv
  · rw [onNilSlice_eq] at hv
    split at hv
    · rename_i e1
      rw [e1] at hx
      have ex := hx.nilSlice_inv
      cases hv
      refine fin ⟨w, ?_, rfl, .refl .., hst⟩
      unfold Builtin.clear_
      simp only [ht, ex, List.getElem?_toArray, List.getElem?_cons_zero, Sem.run_bind, run_underlying hty, Result.andThen, Sem.run_pure]
    · cases hv
end Go.Abs
namespace Go.Abs
variable {P : Program} {o : Oper} {ι : Inj}
theorem run_loadBytes {w : World} {c : Nat} {cs : Array Value} {e : TypeId} {fz : Nat × Nat} (hh : w.heap[c]? = some (.cells cs e fz)) : ∀ (bs : List UInt8) (off : Nat) (acc : ByteArray),
    (∀ i b, bs[i]? = some b → cs[off + i]? = some (.int .u8 (b.toNat : Int))) → (Go.loadBytes ⟨c, off, none⟩ acc bs.length).run P w = .ok ⟨acc.data ++ bs.toArray⟩ w
  | [], off, acc, _ => by simp [Go.loadBytes]
  | b :: bs, off, acc, h => by
    have h0 : (Go.load ⟨c, off, none⟩).run P w = .ok (.int .u8 (b.toNat : Int)) w := run_load_at (by rw [cell_at hh]; exact h 0 b rfl)
    have ih := run_loadBytes hh bs (off + 1) (acc.push b) fun i b' hb => by
      have := h (i + 1) b' (by simpa using hb)
      rw [show off + 1 + i = off + (i + 1) by omega]; exact this
    simp only [Go.loadBytes, List.length_cons, Sem.run_bind, h0, Result.andThen, addr_add]
    have e1 : (b.toNat : Int).toNat.toUInt8 = b := by simp
    rw [e1, ih]
    congr 1
    apply ByteArray.ext
    simp [ByteArray.push]
theorem freeze_ok {w : World} {c i n : Nat} {cs : Array Value} {e : TypeId} {fz : Nat × Nat} (hh : w.heap[c]? = some (.cells cs e fz)) (hn : n ≠ 0) : ∃ fz', (freeze ⟨c, i, none⟩ n).run P w = .ok () (World.setB w c (.cells cs e fz')) := by
  obtain ⟨lo, hi⟩ := fz
  refine ⟨if lo == hi then (i, i + n) else (min lo i, max hi (i + n)), ?_⟩
  simp only [freeze, Sem.run, World.freeze, if_neg hn]
  congr 1
  unfold World.setB
  congr 1
  apply Array.ext_getElem?
  intro j
  rw [Array.getElem?_modify]
  by_cases ej : c = j
  · subst ej
    obtain ⟨hlt, _⟩ := Array.getElem?_eq_some_iff.1 hh
    rw [if_pos rfl, hh, Array.getElem?_setIfInBounds_self_of_lt hlt]; rfl
  · rw [if_neg ej, Array.getElem?_setIfInBounds_ne ej]
theorem x_string {c : Call} {pt : TypeId} {x y : Operand} (h : o.op = .call c) (hb : c.callee = .builtin .unsafeString) (ht : c.argTypes[0]? = some pt) (ha : c.args.toList = [x, y]) :
    X0R P o (fun base t H nx => x2 (fun base x y => bString P base pt x y) x y base (fun _ _ _ _ _ _ => .fail 0) t H nx) := by
  intro gs base ι H nx w t ρ hst hO v H' nx' hv
  have hx := hO x (by rw [opnds_call h hb, ha]; exact List.mem_cons_self ..)
  have hy := hO y (by rw [opnds_call h hb, ha]; exact List.mem_cons_of_mem _ (List.mem_cons_self ..))
  obtain ⟨cs0, hrun⟩ := run_blt (P := P) h hb ρ
  rw [args2 ha] at hrun
  have fin : (∃ r w', (Builtin.unsafeString_ c.argTypes o.type #[ρ x, ρ y]).run P w = .ok r w' ∧ VR ι v r ∧ Stp base ι H nx w ι H' nx' w' ∧ St gs base ι H' nx' w'.heap) →
      ∃ (n : Next) (x : Value) (w' : World) (ι' : Inj), (execOp ρ o).run P w = .ok n w' ∧ (n = .value x ∨ (n = .skip ∧ x = undef)) ∧ VR ι' v x ∧ Stp base ι H nx w ι' H' nx' w' ∧ St gs base ι' H' nx' w'.heap := by
    rintro ⟨r, w', h1, h2, h3, h4⟩
    refine ⟨.value r, r, w', ι, ?_, .inl rfl, h2, h3, h4⟩
    rw [hrun]
    simp only [builtin, Sem.run_bind, h1, Result.andThen, Sem.run_pure]
  have hpre : ∀ (p : Option Addr) (k : IntKind) (n : Nat), (n : Int) ≤ IntKind.i64.max → (Builtin.unsafeString_ c.argTypes o.type #[.pointer p, .int k (n : Int)]).run P w = (match p with
      | none => if (n : Int) = 0 then pure (.string .empty) else runtimePanic (.error "unsafe.String: ptr is nil and len is not zero")
      | some a => if (n : Int) = 0 then pure (.string .empty) else do
        if ← variablesAt a (← elemOf pt) n then do
          let s ← Go.loadBytes a .empty n
          freeze a n
          pure (.string s)
        else unsupported (.unsafePointer "String: not so many bytes at ptr") : Sem Value).run P w := by
    intro p k n hn
    change (asInt (.int k (n : Int)) >>= _).run P w = _
    rw [Sem.run_bind]
    have h0 : ¬ ((n : Int) < 0) := by omega
    have h1 : ¬ ((n : Int) > IntKind.i64.max) := by omega
    simp only [asInt, asIntOf, Sem.run_bind, Sem.run_pure, Result.andThen, ht, if_neg h0, if_neg h1, Int.toNat_natCast]
    cases p <;> rfl
  have hmax : IntKind.i64.max = 9223372036854775807 := by decide
  simp only [x2, bString] at hv
  rw [onPtr_eq] at hv
  split at hv
  · rename_i b p e1
    rw [e1] at hx
    obtain ⟨m, hm, hs, ex⟩ := hx.ptr_inv
    rw [natK_eq] at hv
    split at hv
    · rename_i k n e2
      rw [e2] at hy
      have ey := hy.int_inv
      rw [nEl_eq] at hv
      split at hv
      · cases hv
        refine fin ⟨.string .empty, w, ?_, .str _ _ rfl, .refl .., hst⟩
        rw [ex, ey]
        have := hpre (some ⟨m.c, p - m.s, none⟩) k 0 (by rw [hmax]; omega)
        rw [show (Int.ofNat 0) = ((0 : Nat) : Int) from rfl, this]
        rfl
      · rename_i n0
        rw [onCellsOb_eq] at hv
        split at hv
        · rename_i t' nn el xx hr
          obtain ⟨cs, fz, hh, hcr⟩ := hst.cells hm hr
          rw [oEl_eq] at hv
          split at hv
          · cases hv
          rename_i u hu
          have hpt : P.underlying pt = some (.pointer u) := by
            unfold ptrD at hu; split at hu
            · cases hu; assumption
            · cases hu
          rw [bEl_eq, band_eq] at hv
          split at hv
          · rename_i hc
            rw [Bool.and_eq_true] at hc
            have hle : p + (n0 + 1) ≤ nn := Nat.le_of_ble_eq_true hc.1
            obtain rfl : el = u := Nat.eq_of_beq_eq_true hc.2
            simp only [sizeK] at hv
            rw [oEl_eq] at hv
            split at hv
            · cases hv
            rename_i inf hinf
            rw [bEl_eq] at hv
            split at hv
            · rename_i hs1
              have hs1 : inf.size = 1 := Nat.eq_of_beq_eq_true hs1
              rw [oEl_eq] at hv
              split at hv
              · cases hv
              rename_i s hbl
              have hsz := hcr.size
              have hmost := hcr.most
              obtain ⟨l, e1', e2', e3', e4'⟩ := hcr.row.load hs hle
              obtain ⟨bs, b1, b2⟩ := bytesL_ok hbl e2'
              have hlen : bs.length = n0 + 1 := by rw [← e1', b2]; simp
              have hload := run_loadBytes (P := P) hh bs (p - m.s) .empty fun i b hb => e4' i _ (by rw [b2, List.getElem?_map, hb]; rfl)
              obtain ⟨fz', hfr⟩ := freeze_ok (P := P) (i := p - m.s) (n := n0 + 1) hh (by omega)
              have hlies : liesAt P P.depth el (cs.size / P.cellsOf el) (p - m.s) el (n0 + 1) = true := by
                rw [cellsOf_eq hinf, hs1]
                exact liesAt_self (by rw [cellsOf_eq hinf]; exact hs1) (by omega) (Nat.mod_one _) (by simp; omega)
              have hvar : (variablesAt ⟨m.c, p - m.s, none⟩ el (n0 + 1)).run P w = .ok true w := by
                simp only [variablesAt, Sem.run_bind, run_program, shape_ok (P := P) hh, Result.andThen, hlies, Sem.run_pure]
              have hel : (Go.elemOf pt).run P w = .ok el w := by
                simp only [Go.elemOf, Sem.run_bind, run_underlying hpt, Result.andThen, Sem.run_pure]
              obtain ⟨rfl, s1, s2⟩ := write_ok hst hm (by rw [hr]; rfl) (ob := .dead) (o := .cells cs el fz') trivial hv
              have hb5 : (⟨ByteArray.empty.data ++ bs.toArray⟩ : ByteArray) = ⟨bs.toArray⟩ := by
                congr 1
                show #[] ++ bs.toArray = bs.toArray
                simp
              refine fin ⟨.string ⟨bs.toArray⟩, _, ?_, .str _ _ (by rw [b1]; rfl), s1, s2⟩
              rw [ex, ey]
              have := hpre (some ⟨m.c, p - m.s, none⟩) k (n0 + 1) (by rw [hmax]; have := hcr.lim; omega)
              rw [show (Int.ofNat (n0 + 1)) = ((n0 + 1 : Nat) : Int) from rfl, this]
              simp only
              rw [if_neg (by omega)]
              rw [hlen] at hload
              simp only [Sem.run_bind, hel, Result.andThen, hvar, if_true, hload, hfr, Sem.run_pure, hb5]
            · cases hv
          · cases hv
        · cases hv
    · cases hv
  · rw [onNilPtr_eq] at hv
    split at hv
    · rename_i e1
      rw [e1] at hx
      have ex := hx.nilPtr_inv
      rw [natK_eq] at hv
      split at hv
      · rename_i k n e2
        rw [e2] at hy
        have ey := hy.int_inv
        rw [nEl_eq] at hv
        split at hv
        · cases hv
          refine fin ⟨.string .empty, w, ?_, .str _ _ rfl, .refl .., hst⟩
          rw [ex, ey]
          have := hpre none k 0 (by rw [hmax]; omega)
          rw [show (Int.ofNat 0) = ((0 : Nat) : Int) from rfl, this]
          rfl
        · cases hv
      · cases hv
    · cases hv
end Go.Abs
namespace Go.Abs
variable {P : Program} {o : Oper} {ι : Inj}
theorem choose_cap (need old : Nat) (e : TypeId) (w : World) : ∃ cap, need ≤ cap ∧ (choose (.appendCap need old e)).run P w = .ok cap { w with drawn := w.drawn + 1 } := by
  refine ⟨need + w.tape w.drawn (.appendCap need old e) % (2 ^ 63 - need), Nat.le_add_right .., ?_⟩
  simp [choose, Sem.run, Question.forced, Question.cut]
/-- a row made by 'newRow': its block begins with the cells -/
theorem newRow_ok {gs base : Nat} {H : Hp} {nx : Nat} {w w1 : World} (hst : St gs base ι H nx w.heap) {l : List AV} {e : TypeId} {v v' : AV} {H' : Hp} {nx' : Nat} (h : newRow l e v H nx = .val v' H' nx')
    {cs : Array Value} {fz : Nat × Nat} (hl : VRs ι l (cs.toList.take l.length)) (hle : l.length ≤ cs.size) (hc : l.all AV.cell = true) (hf : ∀ i, i < cs.size → ¬ (fz.1 ≤ i ∧ i < fz.2))
    (hw : w1.heap = w.heap.push (.cells cs e fz)) (h1 : w1.os = w.os) (h2 : w1.output = w.output) (h3 : w1.tape = w.tape) :
    v' = v ∧ l.length ≤ 4096 ∧ Stp base ι H nx w (ι.put nx ⟨w.heap.size, 0, cs.size⟩) H' nx' w1 ∧ St gs base (ι.put nx ⟨w.heap.size, 0, cs.size⟩) H' nx' w1.heap := by
  rw [newRow, bEl_eq, len_eq] at h
  split at h
  · rename_i h4
    have h4 : l.length ≤ 4096 := Nat.le_of_ble_eq_true h4
    rw [rowOf_eq, if_pos hc] at h
    have hrow := RowS.new hl hc h4
    have hi : ι.le (ι.put nx ⟨w.heap.size, 0, cs.size⟩) := Inj.le_put (hst.fresh nx (Nat.le_refl _))
    obtain ⟨a, b, c⟩ := new_ok hst h (m := ⟨w.heap.size, 0, cs.size⟩) (o := .cells cs e fz) (w1 := w1) rfl ⟨cs, fz, rfl, rfl, fun hh => (by cases hh), (by simpa using hle), h4, hf, fun p _ hp => by
      obtain ⟨x1, y, x2, x3⟩ := hrow p (Nat.zero_le _) hp
      refine ⟨x1, y, ?_, x3.mono hi⟩
      simp only [List.getElem?_toArray, Nat.sub_zero] at x2 ⊢
      rw [List.getElem?_take, if_pos hp, Array.getElem?_toList] at x2
      exact x2⟩ hw h1 h2 h3
    exact ⟨a, h4, b, c⟩
  · cases h
theorem push_modify {α : Type} (a : Array α) (x : α) (f : α → α) : (a.push x).modify a.size f = a.push (f x) := by
  apply Array.ext_getElem?
  intro j
  rw [Array.getElem?_modify, Array.getElem?_push, Array.getElem?_push]
  by_cases e : a.size = j
  · subst e; simp
  · rw [if_neg e, if_neg (fun h => e h.symm), if_neg (fun h => e h.symm)]
theorem x_bytes {s d el : TypeId} {x : Operand} (h : o.op = .convert s d x) (hs : P.underlying s = some .string) (hd : P.underlying d = some (.slice el)) (he : P.underlying el = some (.int .u8)) :
    X0R P o (fun base t H nx => xBytes el x base (fun _ _ _ _ _ _ => .fail 0) t H nx) := by
  intro gs base ι H nx w t ρ hst hO v H' nx' hv
  have hx := hO x (by rw [h]; exact mem1 rfl)
  simp only [xBytes] at hv
  rw [onStr_eq] at hv
  split at hv
  · rename_i l e1
    rw [e1] at hx
    obtain ⟨bs, ex, hb⟩ := hx.str_inv
    obtain ⟨cap, hcap, hch⟩ := choose_cap (P := P) bs.size 0 el w
    have hlen : (mapL byteV l).length = bs.size := by rw [mapL_eq, List.length_map, ← hb, bytes_length]
    have hsz : ((bs.data.map fun b : UInt8 => Value.int .u8 b.toNat) ++ Array.replicate (cap - bs.size) (Value.int .u8 0)).size = cap := by
      rw [Array.size_append, Array.size_map, Array.size_replicate]
      have : bs.data.size = bs.size := rfl
      omega
    have hw1 : ∀ w' : World, w'.heap = w.heap → True := fun _ _ => trivial
    obtain ⟨rfl, h4, s1, s2⟩ := newRow_ok (w := w) (w1 := { w with drawn := w.drawn + 1, heap := w.heap.push (.cells ((bs.data.map fun b : UInt8 => Value.int .u8 b.toNat) ++ Array.replicate (cap - bs.size) (Value.int .u8 0)) el (cap, cap + 1)) }) hst hv
      (cs := (bs.data.map fun b : UInt8 => Value.int .u8 b.toNat) ++ Array.replicate (cap - bs.size) (Value.int .u8 0)) (fz := (cap, cap + 1)) (by
        rw [hlen, Array.toList_append, List.take_append_of_le_length (by rw [Array.toList_map, List.length_map]; exact Nat.le_refl _)]
        have := bytesV_ok (ι := ι) bs bs.size
        rw [← hb]
        have e2 : bs.extract 0 bs.size = bs := by
          apply ByteArray.ext
          rw [ByteArray.data_extract]
          show bs.data.extract 0 bs.data.size = bs.data
          exact Array.extract_size
        rw [e2] at this
        rw [List.take_of_length_le (by rw [mapL_eq, List.length_map, bytes_length]; exact Nat.le_refl _)] at this
        rw [List.take_of_length_le (by simp)]
        exact this) (by rw [hlen, hsz]; exact hcap) (by rw [mapL_eq, List.all_map, List.all_eq_true]; intro b _; rfl) (fun i hi => by rw [hsz] at hi; simp; omega) rfl rfl rfl rfl
    refine ⟨.value _, .slice (some ⟨w.heap.size, 0, none⟩) bs.size cap, _, _, ?_, .inl rfl, ?_, s1, s2⟩
    · have hst : (Conv.stringToBytes el bs).run P w = .ok (.slice (some ⟨w.heap.size, 0, none⟩) bs.size cap) { w with drawn := w.drawn + 1, heap := w.heap.push (.cells ((bs.data.map fun b : UInt8 => Value.int .u8 b.toNat) ++ Array.replicate (cap - bs.size) (Value.int .u8 0)) el (cap, cap + 1)) } := by
        simp only [Conv.stringToBytes, Sem.run_bind, hch, Result.andThen, run_newRow]
        have hsh := shape_ok (P := P) (w := ({ w with drawn := w.drawn + 1 } : World).alloc (.cells ((bs.data.map fun b : UInt8 => Value.int .u8 b.toNat) ++ Array.replicate (cap - bs.size) (Value.int .u8 0)) el)) (c := w.heap.size)
          (cs := (bs.data.map fun b : UInt8 => Value.int .u8 b.toNat) ++ Array.replicate (cap - bs.size) (Value.int .u8 0)) (e := el) (fz := (0, 0)) (Array.getElem?_push_size)
        rw [hsz] at hsh
        simp only [markStringish, Sem.run_bind, hsh, Result.andThen]
        generalize ((bs.data.map fun b : UInt8 => Value.int .u8 b.toNat) ++ Array.replicate (cap - bs.size) (Value.int .u8 0)) = arr
        have hfr : (freeze ⟨w.heap.size, cap, none⟩ 1).run P (({ w with drawn := w.drawn + 1 } : World).alloc (.cells arr el)) = .ok () { w with drawn := w.drawn + 1, heap := w.heap.push (.cells arr el (cap, cap + 1)) } := by
          simp only [freeze, Sem.run, World.freeze, if_neg (show ¬ (1 = 0) by decide), World.alloc]
          congr 1
          congr 1
          exact push_modify w.heap (.cells arr el (0, 0)) _
        rw [hfr]; rfl
      simp only [execOp, h, convert, Sem.run_bind, run_underlying hs, run_underlying hd, Result.andThen, ex, run_underlying he, hst, Sem.run_pure]
    · rw [len_eq]
      have hl2 : l.length = bs.size := by rw [← hb, bytes_length]
      rw [hl2]
      exact .slice nx 0 bs.size (.un 1) ⟨w.heap.size, 0, _⟩ _ cap (Inj.put_self _ _ _) (fun _ => by rw [hsz]; simp) hcap fun _ => ⟨rfl, Nat.le_refl _⟩
  · cases hv
end Go.Abs
namespace Go.Abs
variable {P : Program} {o : Oper} {ι : Inj}
theorem growBy_le (newLen : Nat) : ∀ (r c : Nat), Builtin.growBy newLen r c ≤ 2 ^ r * (c + 192)
  | 0, c => by simp [Builtin.growBy]
  | r + 1, c => by
    rw [Builtin.growBy]
    split
    · have : 1 ≤ 2 ^ (r + 1) := Nat.one_le_two_pow
      exact Nat.le_trans (Nat.le_add_right c 192) (Nat.le_mul_of_pos_left _ (by omega))
    · have ih := growBy_le newLen r (c + (c + 768) / 4)
      have h2 : c + (c + 768) / 4 + 192 ≤ 2 * (c + 192) := by omega
      refine Nat.le_trans ih (Nat.le_trans (Nat.mul_le_mul_left _ h2) (Nat.le_of_eq ?_))
      rw [Nat.pow_succ, Nat.mul_assoc]
theorem nextcap_le {need cap : Nat} (h : need ≤ 4096) (hc : cap ≤ 4096) : Builtin.nextslicecap need cap ≤ 70000 := by
  unfold Builtin.nextslicecap
  split
  · omega
  · split
    · omega
    · have := growBy_le need 4 cap
      omega
theorem run_askRoom (n : Nat) (w : World) : (askRoom n).run P w = .ok () w := by unfold askRoom; split <;> rfl
theorem append_head {tys : Array TypeId} {T ty xt e : TypeId} {inf : TypeInfo} {base : Option Addr} {l cap n : Nat} {vx : Value} (h0 : tys[0]? = some ty) (h1 : tys[1]? = some xt) (hx : noInt (P.underlying xt) = true) (hty : P.underlying ty = some (.slice e))
    (hinf : P.info? e = some inf) (hb : inf.bytes ≤ 65536) {zv : Value} (hz : inf.zero = some zv) (hl : ∀ w', (Builtin.lenOf vx).run P w' = .ok n w') {old new : Array Value} {w : World}
    (hnew : ∀ w', w'.heap = w.heap → (Builtin.firstCells inf.size n vx).run P w' = .ok new w') :
    (l + n ≤ cap → (Builtin.append_ tys T #[.slice base l cap, vx]).run P w = (match base with
        | some a => ((storeCells (a.add (l * inf.size)) new.toList).run P w).andThen fun _ w' => .ok (.slice base (l + n) cap) w'
        | none => .ok (.slice base (l + n) cap) w)) ∧
    (¬ l + n ≤ cap → l + n ≤ 4096 → (∀ w', w'.heap = w.heap → (Builtin.firstCells inf.size l (.slice base l cap)).run P w' = .ok old w') → ∃ newCap, l + n ≤ newCap ∧
      (Builtin.append_ tys T #[.slice base l cap, vx]).run P w = .ok (.slice (some ⟨w.heap.size, 0, none⟩) (l + n) newCap) (({ w with drawn := w.drawn + 1 } : World).alloc (.cells (old ++ new ++ Builtin.zeroCells zv.cells (newCap - (l + n))) e))) := by
  cases hxt : P.underlying xt with
  | none => rw [hxt] at hx; cases hx
  | some dx =>
    rw [hxt] at hx
    have hnn : (do
        let need := l + n
        if need ≤ cap then
          let new ← Builtin.firstCells inf.size n vx
          if let some a := base then storeCells (a.add (l * inf.size)) new.toList
          pure (.slice base need cap)
        else
          if (need : Int) > IntKind.i64.max ∧ (false ∨ (← typeInfo e).bytes = 0) then runtimePanic (.error "growslice: len out of range")
          if Builtin.nextslicecap need cap * (← typeInfo e).bytes > 2 ^ 48 then (if false then runtimePanic (.error "growslice: len out of range") else do
            if !(← Builtin.mayShare inf.size l n base vx) then mark .noRoom
            unsupported (.resourceLimit "append: a slice or a string whose bytes no memory bears"))
          let newCap ← choose (.appendCap need cap e)
          askRoom (newCap * (← typeInfo e).bytes)
          let old ← Builtin.firstCells inf.size l (.slice base l cap)
          let new ← Builtin.firstCells inf.size n vx
          let rest := Builtin.zeroCells (← zeroValue e).cells (newCap - need)
          pure (.slice (some (← Go.newRow e (old ++ new ++ rest))) need newCap) : Sem Value).run P w = (Builtin.append_ tys T #[.slice base l cap, vx]).run P w := by
      unfold Builtin.append_
      simp only [h0, h1, List.getElem?_toArray, List.getElem?_cons_zero, List.getElem?_cons_succ, Sem.run_bind, run_underlying hty, run_underlying hxt, Result.andThen, run_sizeOf hinf, Sem.run_pure]
      cases dx <;> first
        | (cases hx; done)
        | (simp only [Bool.false_eq_true, if_false, Sem.run_bind, hl, Result.andThen, Sem.run_pure, Bool.not_false, if_true]; done)
        | (simp only [Bool.false_eq_true, if_false, Sem.run_bind, hl, Result.andThen, Sem.run_pure, Bool.not_false, if_true]; rfl)
    have hmax : IntKind.i64.max = 9223372036854775807 := by decide
    constructor
    · intro hle
      rw [← hnn]
      simp only [if_pos hle, Sem.run_bind, hnew w rfl, Result.andThen]
      cases base with
      | none => rfl
      | some a => simp only [Sem.run_bind, Sem.run_pure]; rfl
    · intro hle h4 hold
      obtain ⟨newCap, hcap, hch⟩ := choose_cap (P := P) (l + n) cap e w
      refine ⟨newCap, hcap, ?_⟩
      rw [← hnn]
      have hb1 : ¬ ((l + n : Nat) : Int) > IntKind.i64.max := by rw [hmax]; omega
      have hb2 : ¬ (Builtin.nextslicecap (l + n) cap * inf.bytes > 2 ^ 48) := by
        have h1 := nextcap_le (need := l + n) (cap := cap) h4 (by omega)
        have h2 := Nat.mul_le_mul h1 hb
        omega
      simp only [if_neg hle, Sem.run_bind, run_typeInfo hinf, Result.andThen, hb1, false_and, if_false, if_neg hb2, hch, run_askRoom, hold ({ w with drawn := w.drawn + 1 }) rfl, hnew ({ w with drawn := w.drawn + 1 }) rfl, run_zeroValue hinf hz, run_newRow, Sem.run_pure]
end Go.Abs
namespace Go.Abs
variable {P : Program} {o : Oper} {ι : Inj}
section
variable {gs base : Nat} {H : Hp} {nx : Nat}
theorem St.kill {hp : Array Obj} (h : St gs base ι H nx hp) {b : Nat} {m : Im} (hm : ι b = some m) (hl : (row H b).live = true) : St gs base ι (put6 H (p6 b) .dead) nx hp := by
  have hc := h.old b m hm
  have := h.set (h.lt hm) hm hl (ob := .dead) (o := hp[m.c]) trivial
  have e : hp.setIfInBounds m.c hp[m.c] = hp := by
    apply Array.ext_getElem?
    intro i
    by_cases ei : m.c = i
    · subst ei; rw [Array.getElem?_setIfInBounds_self_of_lt hc, Array.getElem?_eq_getElem hc]
    · rw [Array.getElem?_setIfInBounds_ne ei]
  rwa [e] at this
/-- a row by a new number, in a block in which no row lives any more -/
theorem St.alias {hp : Array Obj} (h : St gs base ι H nx hp) {ob : Ob} {o : Obj} {m : Im} (hn : nx < 262144) (hc : m.c < hp.size) (hd : ¬ Live ι H nx m.c) (hs : ∀ x m', x < base → ι x = some m' → m'.c ≠ m.c) (ho : ObR gs (ι.put nx m) m ob (some o)) :
    St gs base (ι.put nx m) (put6 H (p6 nx) ob) (nx + 1) (hp.setIfInBounds m.c o) := by
  have hle : ι.le (ι.put nx m) := Inj.le_put (h.fresh nx (Nat.le_refl _))
  refine ⟨h.glob.mono hle, hn, Nat.le_succ_of_le h.low, fun b hb => ?_, fun b hb hb' => ?_, fun b m' hb => ?_, fun b hb hl => ?_, fun b b' m1 m2 hb hb' e1 e2 hcc l1 l2 => ?_, fun x b m1 m2 hx hb e1 e2 => ?_⟩
  · rw [Inj.put_ne (by omega)]; exact h.fresh b (by omega)
  · rw [row_put_ne hn hb' (by omega)]; exact h.dead b (by omega) hb'
  · rw [Array.size_setIfInBounds]
    by_cases e : b = nx
    · subst e; rw [Inj.put_self] at hb; cases hb; exact hc
    · rw [Inj.put_ne e] at hb; exact h.old b m' hb
  · by_cases e : b = nx
    · subst e
      rw [row_put]
      refine ⟨m, Inj.put_self _ _ _, ?_⟩
      rw [Array.getElem?_setIfInBounds_self_of_lt hc]; exact ho
    · rw [row_put_ne hn (by have := h.lim; omega) (fun x => e x.symm)] at hl ⊢
      obtain ⟨m', e', r⟩ := h.obs b (by omega) hl
      refine ⟨m', by rw [Inj.put_ne e]; exact e', ?_⟩
      have hne : m.c ≠ m'.c := fun hcc => hd ⟨b, m', by omega, e', hcc.symm, hl⟩
      rw [Array.getElem?_setIfInBounds_ne hne]
      exact r.mono hle
  · by_cases f1 : b = nx
    · by_cases f2 : b' = nx
      · omega
      · subst f1
        rw [Inj.put_self] at e1; cases e1
        rw [Inj.put_ne f2] at e2
        rw [row_put_ne hn (by have := h.lim; omega) (fun x => f2 x.symm)] at l2
        exact absurd ⟨b', m2, by omega, e2, hcc.symm, l2⟩ hd
    · rw [Inj.put_ne f1] at e1
      rw [row_put_ne hn (by have := h.lim; omega) (fun x => f1 x.symm)] at l1
      by_cases f2 : b' = nx
      · subst f2
        rw [Inj.put_self] at e2; cases e2
        exact absurd ⟨b, m1, by omega, e1, hcc, l1⟩ hd
      · rw [Inj.put_ne f2] at e2
        rw [row_put_ne hn (by have := h.lim; omega) (fun x => f2 x.symm)] at l2
        exact h.inj b b' m1 m2 (by omega) (by omega) e1 e2 hcc l1 l2
  · have hx' : x ≠ nx := by have := h.low; omega
    rw [Inj.put_ne hx'] at e1
    by_cases f : b = nx
    · subst f; rw [Inj.put_self] at e2; cases e2
      exact hs x m1 hx e1
    · rw [Inj.put_ne f] at e2; exact h.sep x b m1 m2 hx hb e1 e2
/-- a row goes on by a new number: in its own block (which is changed), or in a new one -/
theorem Stp.move {w w1 : World} (h : St gs base ι H nx w.heap) {b : Nat} {m m' : Im} (hn : nx < 262144) (hb : base ≤ b) (hm : ι b = some m) (hp : (row H b).plain = true) {ob : Ob}
    (hm' : m'.c = m.c ∨ w.heap.size ≤ m'.c) (hsz : w.heap.size ≤ w1.heap.size) (hw : ∀ c, c < w.heap.size → c ≠ m.c → w1.heap[c]? = w.heap[c]?) (h1 : w1.os = w.os) (h2 : w1.output = w.output) (h3 : w1.tape = w.tape) :
    Stp base ι H nx w (ι.put nx m') (put6 (put6 H (p6 b) .dead) (p6 nx) ob) (nx + 1) w1 := by
  have hl := Ob.plain_live hp
  have hbn := h.lt hm
  have hb' : b < 262144 := by have := h.lim; omega
  refine ⟨Inj.le_put (h.fresh nx (Nat.le_refl _)), hsz, Nat.le_succ _, fun c hc hs => ?_, fun c hc hl' => ?_, h1, h2, h3, fun b hb => Inj.put_ne (by omega), fun x k i j hx hr => ?_⟩
  rotate_left 2
  · have hne : x ≠ b := fun e => by subst e; exact Ob.plain_one hp k i j hr
    refine ⟨by rw [row_put_ne hn (by have := h.lim; omega) (by omega), row_put_ne hb' (by have := h.lim; omega) (fun z => hne z.symm)]; exact hr, fun mm hmm hs => hw mm.c hs fun e => hne (h.inj x b mm m hx hbn hmm hm e (by rw [hr]; rfl) hl)⟩
  · refine hw c hc ?_
    rintro rfl
    rcases hs with hs | ⟨x, mx, hx, e, ec⟩
    · exact hs ⟨b, m, hbn, hm, rfl, hl⟩
    · exact h.sep x b mx m hx hb e hm ec
  · obtain ⟨x, mx, hx, e, ec, l⟩ := hl'
    by_cases f : x = nx
    · subst f
      rw [Inj.put_self] at e; cases e
      rcases hm' with hm' | hm'
      · exact ⟨b, m, hbn, hm, by omega, hl⟩
      · omega
    · rw [Inj.put_ne f] at e
      rw [row_put_ne hn (by have := h.lim; omega) (fun z => f z.symm)] at l
      by_cases g : x = b
      · subst g; rw [row_put] at l; cases l
      · rw [row_put_ne hb' (by have := h.lim; omega) (fun z => g z.symm)] at l
        exact ⟨x, mx, by omega, e, ec, l⟩
end
end Go.Abs
namespace Go.Abs
variable {P : Program} {o : Oper} {ι : Inj}
theorem size_zeroCells' (z : Array Value) (n : Nat) : (Builtin.zeroCells z n).size = n * z.size := by simp [Builtin.zeroCells]
/-- 'newRow' behind an append that makes a new block -/
theorem grow_ok {gs base : Nat} {H : Hp} {nx : Nat} {w : World} (hst : St gs base ι H nx w.heap) {oldA newsA : List AV} {old new zs : Array Value} {e : TypeId} {l n sz cap : Nat} {v : AV} {H' : Hp} {nx' : Nat}
    (h : newRow (oldA ++ newsA) e (.slice nx 0 (l + n) (.un sz)) H nx = .val v H' nx') (ho : VRs ι oldA old.toList) (hn : VRs ι newsA new.toList) (co : oldA.all AV.cell = true) (cn : newsA.all AV.cell = true)
    (lo : oldA.length = l * sz) (ln : newsA.length = n * sz) (hz : zs.size = (cap - (l + n)) * sz) (hcap : l + n ≤ cap) :
    Stp base ι H nx w (ι.put nx ⟨w.heap.size, 0, (old ++ new ++ zs).size⟩) H' nx' (({ w with drawn := w.drawn + 1 } : World).alloc (.cells (old ++ new ++ zs) e)) ∧
    St gs base (ι.put nx ⟨w.heap.size, 0, (old ++ new ++ zs).size⟩) H' nx' (({ w with drawn := w.drawn + 1 } : World).alloc (.cells (old ++ new ++ zs) e)).heap ∧
    VR (ι.put nx ⟨w.heap.size, 0, (old ++ new ++ zs).size⟩) v (.slice (some ⟨w.heap.size, 0, none⟩) (l + n) cap) := by
  have l1 := ho.length
  have l2 := hn.length
  have s1 : old.size = l * sz := by have : old.toList.length = old.size := Array.length_toList; omega
  have s2 : new.size = n * sz := by have : new.toList.length = new.size := Array.length_toList; omega
  have hmul : cap * sz = l * sz + n * sz + (cap - (l + n)) * sz := by
    rw [← Nat.add_mul, ← Nat.add_mul]; congr 1; omega
  have hsz : (old ++ new ++ zs).size = cap * sz := by
    rw [Array.size_append, Array.size_append]; omega
  obtain ⟨rfl, h4, a, b⟩ := newRow_ok (w1 := ({ w with drawn := w.drawn + 1 } : World).alloc (.cells (old ++ new ++ zs) e)) hst h (cs := old ++ new ++ zs) (fz := (0, 0)) (by
      rw [Array.toList_append, List.take_append_of_le_length (by rw [Array.toList_append, List.length_append, List.length_append]; omega), Array.toList_append, List.take_of_length_le (by rw [List.length_append, List.length_append]; omega)]
      exact ho.append hn) (by rw [List.length_append, hsz]; omega) (by rw [List.all_append, co, cn]; rfl) (fun i _ hh => by simp at hh) rfl rfl rfl rfl
  refine ⟨a, b, .slice nx 0 (l + n) (.un sz) ⟨w.heap.size, 0, _⟩ _ cap (Inj.put_self _ _ _) (fun _ => by rw [hsz]; simp) hcap fun _ => ⟨rfl, Nat.le_refl _⟩⟩
theorem x_append {c : Call} {ty xt : TypeId} {x y : Operand} (h : o.op = .call c) (hb : c.callee = .builtin .append) (ht : c.argTypes[0]? = some ty) (ht1 : c.argTypes[1]? = some xt) (ha : c.args.toList = [x, y]) :
    X0R P o (fun base t H nx => x2 (fun base s x => bAppend P base ty xt s x) x y base (fun _ _ _ _ _ _ => .fail 0) t H nx) := by
  intro gs base ι H nx w t ρ hst hO v H' nx' hv
  have hx := hO x (by rw [opnds_call h hb, ha]; exact List.mem_cons_self ..)
  have hy := hO y (by rw [opnds_call h hb, ha]; exact List.mem_cons_of_mem _ (List.mem_cons_self ..))
  obtain ⟨cs0, hrun⟩ := run_blt (P := P) h hb ρ
  rw [args2 ha] at hrun
  have fin : (∃ r w' ι', (Builtin.append_ c.argTypes o.type #[ρ x, ρ y]).run P w = .ok r w' ∧ VR ι' v r ∧ Stp base ι H nx w ι' H' nx' w' ∧ St gs base ι' H' nx' w'.heap) →
      ∃ (n : Next) (x : Value) (w' : World) (ι' : Inj), (execOp ρ o).run P w = .ok n w' ∧ (n = .value x ∨ (n = .skip ∧ x = undef)) ∧ VR ι' v x ∧ Stp base ι H nx w ι' H' nx' w' ∧ St gs base ι' H' nx' w'.heap := by
    rintro ⟨r, w', ι', h1, h2, h3, h4⟩
    refine ⟨.value r, r, w', ι', ?_, .inl rfl, h2, h3, h4⟩
    rw [hrun]
    simp only [builtin, Sem.run_bind, h1, Result.andThen, Sem.run_pure]
  simp only [x2, bAppend] at hv
  rw [bEl_eq] at hv
  split at hv
  · rename_i hno
    obtain ⟨e, inf, hty, hinf, hv⟩ := elemK_ok hv (by simp)
    rw [bEl_eq] at hv
    split at hv
    · rename_i hbytes
      have hbytes : inf.bytes ≤ 65536 := by
        unfold bytesBelow at hbytes; rw [hinf] at hbytes; exact Nat.le_of_ble_eq_true hbytes
      obtain ⟨inf', zv, hinf', hzv, hzs, _, hv, _, _, _⟩ := zerosK_ok (ι := ι) hv (by simp)
      rw [hinf] at hinf'; cases hinf'
      obtain ⟨n, news, hv, hlen, hcell, hlenOf, hfirst⟩ := source_ok (P := P) hst hy hv (by simp)
      obtain ⟨new, hnew, hnr0⟩ := hfirst n (Nat.le_refl _)
      have hnr : VRs ι news new.toList := hnr0.take_all (by rw [hlen]; exact Nat.le_refl _)
      clear hnr0 hfirst
      rw [onSlice_eq] at hv
      split at hv
      · rename_i b p l k e1
        rw [e1] at hx
        obtain ⟨m, a, cap, hm, hc, hl, haa, ex⟩ := hx.slice_inv
        obtain ⟨hin, hgrow⟩ := append_head (T := o.type) (base := some a) (l := l) (cap := cap) (vx := ρ y) ht ht1 hno hty hinf hbytes hzv hlenOf (old := #[]) (w := w) hnew
        rw [nEl_eq] at hv
        split at hv
        · cases hv
          have hnil : new.toList = [] := by
            have hl0 := hnr.length
            rw [hlen, Nat.zero_mul] at hl0
            exact List.length_eq_zero_iff.1 hl0.symm
          refine fin ⟨_, w, ι, ?_, .slice b p l k m a cap hm hc hl haa, .refl .., hst⟩
          rw [ex, hin (by omega), hnil]; rfl
        · rename_i n0
          rw [fNat_eq, bEl_eq] at hv
          split at hv
          · rename_i h4
            have h4 : l + (n0 + 1) ≤ 4096 := Nat.le_of_ble_eq_true h4
            have hl2 := hnr.length
            have newsz : new.size = (n0 + 1) * inf.size := by rw [← Array.length_toList, ← hl2, hlen]
            -- the old one has no elements
            have empty : cap = 0 → newRow news e (.slice nx 0 (l + (n0 + 1)) (.un inf.size)) H nx = .val v H' nx' →
                ∃ (n : Next) (x : Value) (w' : World) (ι' : Inj), (execOp ρ o).run P w = .ok n w' ∧ (n = .value x ∨ (n = .skip ∧ x = undef)) ∧ VR ι' v x ∧ Stp base ι H nx w ι' H' nx' w' ∧ St gs base ι' H' nx' w'.heap := by
              intro hc0 hv
              have hl0 : l = 0 := by omega
              obtain ⟨newCap, hcap, hr⟩ := hgrow (by omega) h4 fun w' _ => by subst hl0; simp only [Builtin.firstCells, Nat.zero_mul]; rfl
              obtain ⟨g1, g2, g3⟩ := grow_ok (oldA := []) (old := #[]) (new := new) (zs := Builtin.zeroCells zv.cells (newCap - (l + (n0 + 1)))) (l := l) hst hv .nil hnr rfl hcell (by simp [hl0]) hlen (by rw [size_zeroCells', hzs]) hcap
              refine fin ⟨_, _, _, ?_, g3, g1, g2⟩
              rw [ex, hr]
            rw [apEmpty, Cp.el_eq] at hv
            have hgo : onCellsOb (row H b) (.fail 77) (fun t m e' ex => apRow base news b p l (l + (n0 + 1)) inf.size k e H nx t m e' ex) = .val v H' nx' → (∀ k', k = .ex k' → cap ≠ 0) →
                ∃ (n : Next) (x : Value) (w' : World) (ι' : Inj), (execOp ρ o).run P w = .ok n w' ∧ (n = .value x ∨ (n = .skip ∧ x = undef)) ∧ VR ι' v x ∧ Stp base ι H nx w ι' H' nx' w' ∧ St gs base ι' H' nx' w'.heap := by
              clear hv
              intro hv hk0
              rw [onCellsOb_eq] at hv
              split at hv
              · rename_i tt mm e' xx hr
                obtain ⟨cs, fz, hh, hcr⟩ := hst.cells hm hr
                have hsz := hcr.size
                have hmost := hcr.most
                rw [apRow, bEl_eq] at hv
                split at hv
                · rename_i hle
                  have hle : p + l * inf.size ≤ mm := Nat.le_of_ble_eq_true hle
                  -- the old cells
                  have hold : cap ≠ 0 → ∃ ls : List Value, ls.length = l * inf.size ∧ VRs ι (loadN tt (l * inf.size) p) ls ∧ (∀ v ∈ loadN tt (l * inf.size) p, v.cell = true) ∧
                      ∀ w', w'.heap = w.heap → (Builtin.firstCells inf.size l (.slice (some a) l cap)).run P w' = .ok ls.toArray w' := by
                    intro hc0
                    obtain ⟨h1, h2⟩ := haa hc0
                    obtain ⟨ls, e1', e2', e3', e4'⟩ := hcr.row.load h2 hle
                    refine ⟨ls, e1', e2', e3', fun w' hw => ?_⟩
                    simp only [Builtin.firstCells, h1]
                    rw [← e1']
                    refine run_loadCells_list w' _ ls fun j y hj => ?_
                    rw [addr_add, cell_at (w := w') (by rw [hw]; exact hh)]; exact e4' j y hj
                  rw [Cp.el_eq] at hv
                  split at hv
                  · rename_i k'
                    have hc0 := hk0 k' rfl
                    have hck : cap = k' := hc
                    subst hck
                    obtain ⟨h1, h2⟩ := haa hc0
                    rw [bEl_eq] at hv
                    split at hv
                    · rename_i hneed
                      have hneed : l + (n0 + 1) ≤ cap := Nat.le_of_ble_eq_true hneed
                      rw [apIn, bEl_eq] at hv
                      split at hv
                      · rename_i hroom
                        have hroom : p + cap * inf.size ≤ mm := Nat.le_of_ble_eq_true hroom
                        have hmul : l * inf.size + (n0 + 1) * inf.size ≤ cap * inf.size := by rw [← Nat.add_mul]; exact Nat.mul_le_mul_right _ hneed
                        rw [storeL_eq, if_pos hcell] at hv
                        have hcw := hcr.write hnr hcell (p := p + l * inf.size) (by omega) (by rw [hlen]; show p + l * inf.size + (n0 + 1) * inf.size ≤ mm; omega)
                        obtain ⟨rfl, s1, s2⟩ := write_ok hst hm (by rw [hr]; rfl) (ob := .cells (putL news (p + l * inf.size) tt) mm e' xx) (o := .cells (writeL cs (p + l * inf.size - m.s) new.toList) e' fz) ⟨_, _, rfl, hcw⟩ hv
                        have hrs := run_storeCells_free (P := P) m.c e' fz (p - m.s + l * inf.size) new.toList 0 cs w hh (by rw [Array.length_toList, newsz]; omega) (hnr.cellV hcell) hcr.free
                        simp only [Nat.add_zero] at hrs
                        have eoff : p - m.s + l * inf.size = p + l * inf.size - m.s := by omega
                        rw [eoff] at hrs
                        refine fin ⟨_, _, ι, ?_, .slice b p (l + (n0 + 1)) (.ex cap) m a cap hm rfl hneed haa, s1, s2⟩
                        rw [ex, hin hneed]
                        simp only
                        rw [h1, addr_add, eoff, hrs]; rfl
                      · cases hv
                    · rename_i hneed
                      have hneed : ¬ l + (n0 + 1) ≤ cap := fun hh' => hneed (Nat.ble_eq_true_of_le hh')
                      obtain ⟨ls, o1, o2, o3, o4⟩ := hold hc0
                      obtain ⟨_, hgrow⟩ := append_head (T := o.type) (base := some a) (l := l) (cap := cap) (vx := ρ y) ht ht1 hno hty hinf hbytes hzv hlenOf (old := ls.toArray) (w := w) hnew
                      obtain ⟨newCap, hcap, hr2⟩ := hgrow hneed h4 o4
                      rw [app_eq] at hv
                      obtain ⟨g1, g2, g3⟩ := grow_ok (old := ls.toArray) (new := new) (zs := Builtin.zeroCells zv.cells (newCap - (l + (n0 + 1)))) (l := l) hst hv (by simpa using o2) hnr (List.all_eq_true.2 o3) hcell (loadN_length _ _ _) hlen (by rw [size_zeroCells', hzs]) hcap
                      refine fin ⟨_, _, _, ?_, g3, g1, g2⟩
                      rw [ex, hr2]
                  · rename_i z
                    rw [bEl_eq, band_eq] at hv
                    split at hv
                    · rename_i hze
                      rw [Bool.and_eq_true] at hze
                      obtain rfl : z = inf.size := Nat.eq_of_beq_eq_true hze.1
                      obtain rfl : e = e' := Nat.eq_of_beq_eq_true hze.2
                      rw [apOn, bEl_eq] at hv
                      split at hv
                      · rename_i hbase
                        have hbase : base ≤ b := Nat.le_of_ble_eq_true hbase
                        rw [fNat_eq, bEl_eq] at hv
                        split at hv
                        · rename_i hen
                          have hen : p + (l + (n0 + 1)) * inf.size ≤ 4096 := Nat.le_of_ble_eq_true hen
                          rw [storeL_eq, if_pos hcell, fN8_eq, Go.Abs.new, bEl_eq] at hv
                          split at hv
                          · rename_i hnx
                            have hnx : nx < 262144 := by simpa using hnx
                            rw [fN8_eq, fNat_eq] at hv
                            cases hv
                            have hlive : (row H b).live = true := by rw [hr]; rfl
                            have hk := hst.kill hm hlive
                            have hmul : (l + (n0 + 1)) * inf.size = l * inf.size + (n0 + 1) * inf.size := Nat.add_mul ..
                            have hdead : ¬ Live ι (put6 H (p6 b) .dead) nx m.c := by
                              rintro ⟨x, mx, hx1, hx2, hx3, hx4⟩
                              by_cases hxb : x = b
                              · subst hxb; rw [row_put] at hx4; cases hx4
                              · rw [row_put_ne (by have := hst.lt hm; omega) (by omega) (fun hh => hxb hh.symm)] at hx4
                                exact hxb (hst.inj x b mx m hx1 (hst.lt hm) hx2 hm hx3 hx4 hlive)
                            have hle' : ι.le (ι.put nx m) := Inj.le_put (hst.fresh nx (Nat.le_refl _))
                            by_cases hneed : l + (n0 + 1) ≤ cap
                            · obtain ⟨h1, h2⟩ := haa (by omega)
                              have hcp := hc (by omega)
                              have hmulc : (l + (n0 + 1)) * inf.size ≤ cap * inf.size := Nat.mul_le_mul_right _ hneed
                              have hrow := RowS.write hcr.row hnr hcell (p := p + l * inf.size) (by omega) (by rw [hlen]; show p + l * inf.size + (n0 + 1) * inf.size ≤ 4096; omega) hcr.lim (by rw [hlen]; show p + l * inf.size - m.s + (n0 + 1) * inf.size ≤ cs.size; omega)
                                (n' := p + (l + (n0 + 1)) * inf.size) (by rw [hlen]; show _ ≤ max mm (p + l * inf.size + (n0 + 1) * inf.size); omega) hle
                              have hrs := run_storeCells_free (P := P) m.c e fz (p - m.s + l * inf.size) new.toList 0 cs w hh (by rw [Array.length_toList, newsz]; omega) (hnr.cellV hcell) hcr.free
                              simp only [Nat.add_zero] at hrs
                              have eoff : p - m.s + l * inf.size = p + l * inf.size - m.s := by omega
                              rw [eoff] at hrs
                              refine fin ⟨_, World.setB w m.c (.cells (writeL cs (p + l * inf.size - m.s) new.toList) e fz), ι.put nx m, ?_, .slice nx p (l + (n0 + 1)) (.un inf.size) m a cap (Inj.put_self _ _ _) hc hneed haa, ?_, ?_⟩
                              · rw [ex, hin hneed]
                                simp only
                                rw [h1, addr_add, eoff, hrs]; rfl
                              · exact Stp.move hst hnx hbase hm (by rw [hr]; rfl) (.inl rfl) (by show w.heap.size ≤ (w.heap.setIfInBounds _ _).size; simp) (fun c' hc' hne => by
                                  show (w.heap.setIfInBounds _ _)[c']? = _
                                  rw [Array.getElem?_setIfInBounds_ne (fun hh => hne hh.symm)]) rfl rfl rfl
                              · exact hk.alias hnx (hst.old b m hm) hdead (fun x mx hx hmx => hst.sep x b mx m hx hbase hmx hm) ⟨_, _, rfl, by rw [writeL_size]; exact hsz, fun hh => (by cases hh), by show p + (l + (n0 + 1)) * inf.size ≤ _; omega, hen, by rw [writeL_size]; exact hcr.free,
                                  fun q hq1 hq2 => (hrow.mono hle') q hq1 hq2⟩
                            · have hold2 : ∃ ls : List Value, ls.length = l * inf.size ∧ VRs ι (loadN tt (l * inf.size) p) ls ∧ (∀ v ∈ loadN tt (l * inf.size) p, v.cell = true) ∧
                                  ∀ w', w'.heap = w.heap → (Builtin.firstCells inf.size l (.slice (some a) l cap)).run P w' = .ok ls.toArray w' := by
                                by_cases hc0 : cap = 0
                                · have hl0 : l = 0 := by omega
                                  refine ⟨[], by simp [hl0], ?_, ?_, fun w' _ => ?_⟩
                                  · rw [hl0, Nat.zero_mul]; exact .nil
                                  · rw [hl0, Nat.zero_mul]; intro v hv; cases hv
                                  · rw [hl0]; simp only [Builtin.firstCells, Nat.zero_mul]; rfl
                                · exact hold hc0
                              obtain ⟨ls, o1, o2, o3, o4⟩ := hold2
                              obtain ⟨_, hgrow⟩ := append_head (T := o.type) (base := some a) (l := l) (cap := cap) (vx := ρ y) ht ht1 hno hty hinf hbytes hzv hlenOf (old := ls.toArray) (w := w) hnew
                              obtain ⟨newCap, hcap, hr2⟩ := hgrow hneed h4 o4
                              have hzsz : (Builtin.zeroCells zv.cells (newCap - (l + (n0 + 1)))).size = (newCap - (l + (n0 + 1))) * inf.size := by rw [size_zeroCells', hzs]
                              generalize Builtin.zeroCells zv.cells (newCap - (l + (n0 + 1))) = zs at hr2 hzsz
                              have hmulc : newCap * inf.size = (l + (n0 + 1)) * inf.size + (newCap - (l + (n0 + 1))) * inf.size := by rw [← Nat.add_mul]; congr 1; omega
                              have harr : (ls.toArray ++ new ++ zs).size = newCap * inf.size := by
                                rw [Array.size_append, Array.size_append, List.size_toArray, o1, newsz, hzsz]; omega
                              have hle2 : ι.le (ι.put nx ⟨w.heap.size, p, (ls.toArray ++ new ++ zs).size⟩) := Inj.le_put (hst.fresh nx (Nat.le_refl _))
                              refine fin ⟨_, ({ w with drawn := w.drawn + 1 } : World).alloc (.cells (ls.toArray ++ new ++ zs) e), ι.put nx ⟨w.heap.size, p, (ls.toArray ++ new ++ zs).size⟩, by rw [ex, hr2],
                                .slice nx p (l + (n0 + 1)) (.un inf.size) _ _ newCap (Inj.put_self _ _ _) (fun _ => by rw [harr]; simp) hcap fun _ => ⟨by simp, Nat.le_refl _⟩, ?_, ?_⟩
                              · exact Stp.move hst hnx hbase hm (by rw [hr]; rfl) (.inr (Nat.le_refl _)) (by show w.heap.size ≤ (w.heap.push _).size; simp) (fun c' hc' hne => by
                                  show (w.heap.push _)[c']? = _
                                  rw [Array.getElem?_push_lt hc', Array.getElem?_eq_getElem hc']) rfl rfl rfl
                              · refine hk.push hnx rfl ⟨_, (0, 0), rfl, rfl, fun hh => (by cases hh), ?_, hen, fun i _ hh => by simp at hh, fun q hq1 hq2 => ?_⟩
                                · show p + (l + (n0 + 1)) * inf.size ≤ p + (ls.toArray ++ new ++ zs).size
                                  rw [harr]; omega
                                · have hq1 : p ≤ q := hq1
                                  have hq2 : q < p + (l + (n0 + 1)) * inf.size := hq2
                                  show _ ∧ ∃ v, (ls.toArray ++ new ++ zs)[q - p]? = some v ∧ _
                                  have hnl : news.length = (n0 + 1) * inf.size := hlen
                                  rw [get4_putL news _ tt q (by omega) (by rw [hnl]; show p + l * inf.size + (n0 + 1) * inf.size ≤ 4096; omega)]
                                  by_cases hin2 : p + l * inf.size ≤ q
                                  · rw [if_pos (by show p + l * inf.size ≤ q ∧ q < p + l * inf.size + news.length; omega)]
                                    have hlt : q - (p + l * inf.size) < news.length := by omega
                                    obtain ⟨x1, hx1, hx2⟩ := hnr.get (q - (p + l * inf.size)) _ (List.getElem?_eq_getElem hlt)
                                    show (((news[q - (p + l * inf.size)]?).getD .any).cell = true) ∧ _
                                    rw [List.getElem?_eq_getElem hlt]
                                    refine ⟨List.all_eq_true.1 hcell _ (List.getElem_mem hlt), x1, ?_, by
                                      show VR _ ((news[q - (p + l * inf.size)]?).getD .any) x1
                                      rw [List.getElem?_eq_getElem hlt]; exact hx2.mono hle2⟩
                                    rw [Array.getElem?_append_left (by rw [Array.size_append, List.size_toArray, o1, newsz]; omega), Array.getElem?_append_right (by rw [List.size_toArray, o1]; omega), List.size_toArray, o1]
                                    rw [show q - p - l * inf.size = q - (p + l * inf.size) by omega, ← Array.getElem?_toList]; exact hx1
                                  · rw [if_neg (by show ¬ (p + l * inf.size ≤ q ∧ q < p + l * inf.size + news.length); omega)]
                                    have hlt : q - p < l * inf.size := by omega
                                    have hget : (loadN tt (l * inf.size) p)[q - p]? = some (get4 tt (p4 q)) := by
                                      rw [loadN_eq, List.getElem?_map, List.getElem?_range hlt]
                                      show some (get4 tt (p4 (p + (q - p)))) = _
                                      rw [show p + (q - p) = q by omega]
                                    obtain ⟨x1, hx1, hx2⟩ := o2.get (q - p) _ hget
                                    refine ⟨o3 _ (List.mem_of_getElem? hget), x1, ?_, hx2.mono hle2⟩
                                    rw [Array.getElem?_append_left (by rw [Array.size_append, List.size_toArray, o1, newsz]; omega), Array.getElem?_append_left (by rw [List.size_toArray, o1]; omega)]
                                    simpa using hx1
                          · cases hv
                        · cases hv
                      · cases hv
                    · cases hv
                · cases hv
              · cases hv
            split at hv
            · rename_i k'
              rw [nEl_eq] at hv
              split at hv
              · exact empty hc hv
              · exact hgo hv (fun k'' hk => by rw [show cap = _ from hc]; omega)
            · exact hgo hv (fun k'' hk => by cases hk)
          · cases hv
      · rw [onNilSlice_eq] at hv
        split at hv
        · rename_i e1
          rw [e1] at hx
          have ex := hx.nilSlice_inv
          obtain ⟨hin, hgrow⟩ := append_head (T := o.type) (base := none) (l := 0) (cap := 0) (vx := ρ y) ht ht1 hno hty hinf hbytes hzv hlenOf (old := #[]) (w := w) hnew
          rw [nEl_eq] at hv
          split at hv
          · cases hv
            refine fin ⟨_, w, ι, ?_, .nilSlice, .refl .., hst⟩
            rw [ex, hin (by omega)]
          · rename_i n0
            rw [bEl_eq] at hv
            split at hv
            · rename_i h4
              have h4 : n0 + 1 ≤ 4096 := Nat.le_of_ble_eq_true h4
              obtain ⟨newCap, hcap, hr⟩ := hgrow (by omega) (by omega) fun w' _ => rfl
              have hv' : newRow ([] ++ news) e (.slice nx 0 (0 + (n0 + 1)) (.un inf.size)) H nx = .val v H' nx' := by
                rw [List.nil_append, Nat.zero_add]; exact hv
              obtain ⟨g1, g2, g3⟩ := grow_ok (old := #[]) (new := new) (zs := Builtin.zeroCells zv.cells (newCap - (0 + (n0 + 1)))) hst hv' .nil hnr rfl hcell (by simp) hlen (by rw [size_zeroCells', hzs]) hcap
              refine fin ⟨_, _, _, ?_, g3, g1, g2⟩
              rw [ex, hr]
            · cases hv
        · cases hv
    · cases hv
  · cases hv
end Go.Abs
