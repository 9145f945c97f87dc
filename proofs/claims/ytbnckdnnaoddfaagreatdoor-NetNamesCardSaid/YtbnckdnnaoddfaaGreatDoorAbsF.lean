import Derived.Test.YtbnckdnnaoddfaaGreatDoorAbsE
import Derived.Laws.Externs
import Derived.Lib.Index
set_option linter.all false
namespace Go.Abs
variable {P : Program} {X : Orc} {gs base n : Nat} {ι : Inj} {H : Hp} {nx : Nat} {w : World}
/-! ### The same state, told otherwise -/
theorem St.rows {H' : Hp} {hp : Array Obj} (h : St gs base ι H nx hp) (hr : ∀ x, x < 262144 → row H' x = row H x) : St gs base ι H' nx hp := h.sub fun b hb => .inl (hr b hb)
theorem St.relabel {H' : Hp} {hp : Array Obj} (h : St gs base ι H nx hp) {b : Nat} {m : Im} (hb : b < nx) (hm : ι b = some m) (hl : (row H b).live = true) (hr : ∀ x, x < 262144 → x ≠ b → row H' x = row H x) (ho : ObR gs ι m (row H' b) hp[m.c]?) :
    St gs base ι H' nx hp := by
  have up : ∀ x, x < nx → (row H' x).live = true → (row H x).live = true := fun x hx hlx => by
    by_cases e : x = b
    · subst e; exact hl
    · rw [hr x (by have := h.lim; omega) e] at hlx; exact hlx
  refine ⟨h.glob, h.lim, h.low, h.fresh, fun x hx hx' => ?_, h.old, fun x hx hlx => ?_, fun x y m1 m2 hx hy e1 e2 hc l1 l2 => h.inj x y m1 m2 hx hy e1 e2 hc (up x hx l1) (up y hy l2), h.sep⟩
  · rw [hr x hx' (by omega)]; exact h.dead x hx hx'
  · by_cases e : x = b
    · subst e; exact ⟨m, hm, ho⟩
    · rw [hr x (by have := h.lim; omega) e] at hlx ⊢; exact h.obs x hx hlx
theorem St.rebase {hp : Array Obj} (h : St gs base ι H nx hp) : St gs nx ι H nx hp :=
  ⟨h.glob, h.lim, Nat.le_refl _, h.fresh, h.dead, h.old, h.obs, h.inj, fun x b m m' _ hb _ e2 _ => by rw [h.fresh b hb] at e2; cases e2⟩
theorem St.carry {hp hp2 : Array Obj} (h : St gs base ι H nx hp) (hs : hp.size ≤ hp2.size) (hc : ∀ c, c < hp.size → hp2[c]? = hp[c]?) : St gs base ι H nx hp2 := by
  refine ⟨h.glob, h.lim, h.low, h.fresh, h.dead, fun b m e => Nat.lt_of_lt_of_le (h.old b m e) hs, fun b hb hl => ?_, h.inj, h.sep⟩
  obtain ⟨m, e, r⟩ := h.obs b hb hl
  exact ⟨m, e, by rw [hc _ (h.old b m e)]; exact r⟩
/-- nothing below the base is written, and no row is new -/
theorem Stp.all_same {ι2 : Inj} {H2 : Hp} {nx2 : Nat} {w2 : World} (s : Stp nx ι H nx w ι2 H2 nx2 w2) {c : Nat} (hc : c < w.heap.size) : w2.heap[c]? = w.heap[c]? := by
  refine s.same c hc ?_
  by_cases h : Live ι H nx c
  · obtain ⟨b, m, hb, e, hcc, _⟩ := h
    exact .inr ⟨b, m, hb, e, hcc⟩
  · exact .inl h
theorem Stp.still {ι2 : Inj} {H1 H2 : Hp} {nx2 : Nat} {w2 : World} (s : Stp nx ι H1 nx w ι2 H2 nx2 w2) : Stp base ι H nx w ι H nx w2 :=
  ⟨.refl _, s.size, Nat.le_refl _, fun _ hc _ => s.all_same hc, fun _ _ h => h, s.os, s.output, s.tape, fun _ _ => rfl, fun _ _ _ _ _ hr => ⟨hr, fun _ _ hs => s.all_same hs⟩⟩
theorem Stp.relabel {H1 H1' H2 H2' : Hp} {ι2 : Inj} {nx2 : Nat} {w2 : World} {b : Nat} (s : Stp base ι H1 nx w ι2 H2 nx2 w2) (h1 : ∀ x, x < nx → x ≠ b → row H1' x = row H1 x) (l1 : (row H1' b).live = true) (no1 : ∀ k i j, row H1' b ≠ .one k i j)
    (l1' : (row H1 b).live = true) (h2 : ∀ x, x < nx2 → x ≠ b → row H2' x = row H2 x) (l2 : (row H2' b).live = true → (row H2 b).live = true) : Stp base ι H1' nx w ι2 H2' nx2 w2 := by
  refine ⟨s.ext, s.size, s.up, fun c hc hh => s.same c hc ?_, fun c hc hl => ?_, s.os, s.output, s.tape, s.keep, fun x k i j hx hr => ?_⟩
  · rcases hh with hh | hh
    · refine .inl fun ⟨x, m, hx, e, hcc, l⟩ => hh ⟨x, m, hx, e, hcc, ?_⟩
      by_cases e' : x = b
      · subst e'; exact l1
      · rw [h1 x hx e']; exact l
    · exact .inr hh
  · obtain ⟨x, m, hx, e, hcc, l⟩ := hl
    obtain ⟨x', m', hx', e', hcc', l'⟩ := s.live c hc ⟨x, m, hx, e, hcc, by
      by_cases e' : x = b
      · subst e'; exact l2 l
      · rw [h2 x hx e'] at l; exact l⟩
    refine ⟨x', m', hx', e', hcc', ?_⟩
    by_cases f : x' = b
    · subst f; exact l1
    · rw [h1 x' hx' f]; exact l'
  · have hne : x ≠ b := fun e => by subst e; exact no1 k i j hr
    rw [h1 x hx hne] at hr
    obtain ⟨o1, o2⟩ := s.one x k i j hx hr
    exact ⟨by rw [h2 x (Nat.lt_of_lt_of_le hx s.up) hne]; exact o1, o2⟩
/-! ### Poisoned temporaries -/
theorem get3_put_any (t : Tm) (p q : P3) : get3 (put3 t p .any) q = .any ∨ get3 (put3 t p .any) q = get3 t q := by
  by_cases h : p = q
  · subst h; exact .inl (get3_put ..)
  · exact .inr (get3_put_ne _ _ h)
theorem poison_get (q : P3) : ∀ (l : List Nat) (t : Tm), get3 (poison l t) q = .any ∨ get3 (poison l t) q = get3 t q
  | [], t => .inr rfl
  | d :: l, t => by
    change get3 (fN8 (put3 t (p3 d) .any) fun t => poison l t) q = .any ∨ _
    have e : get3 (poison (d :: l) t) q = get3 (poison l (put3 t (p3 d) .any)) q := by
      change get3 (fN8 (put3 t (p3 d) .any) fun t => poison l t) q = _
      rw [fN8_eq]
    rw [e, fN8_eq]
    rcases poison_get q l (put3 t (p3 d) .any) with h | h
    · exact .inl h
    · rcases get3_put_any t (p3 d) q with h' | h'
      · exact .inl (h.trans h')
      · exact .inr (h.trans h')
theorem poison_any : ∀ (l : List Nat) (t : Tm) (d : Nat), d ∈ l → get3 (poison l t) (p3 d) = .any
  | [], _, _, h => by cases h
  | e :: l, t, d, h => by
    have e' : get3 (poison (e :: l) t) (p3 d) = get3 (poison l (put3 t (p3 e) .any)) (p3 d) := by
      change get3 (fN8 (put3 t (p3 e) .any) fun t => poison l t) (p3 d) = _
      rw [fN8_eq]
    rw [e']
    rcases List.mem_cons.1 h with rfl | h
    · rcases poison_get (p3 d) l (put3 t (p3 d) .any) with h' | h'
      · exact h'
      · rw [h', get3_put]
    · exact poison_any l _ d h
theorem TR.poison {t : Tm} {a : Array Value} (h : TR ι n t a) (l : List Nat) : TR ι n (poison l t) a := by
  refine ⟨h.size, h.lim, fun i hi => ?_⟩
  obtain ⟨x, hx, hv⟩ := h.val i hi
  refine ⟨x, hx, ?_⟩
  rcases poison_get (p3 i) l t with e | e
  · rw [e]; exact .any _
  · rw [e]; exact hv
theorem TR.kept {t : Tm} {a a' : Act} {l : List Nat} (h : TR ι n t a.tmps) (hp : ∀ d ∈ l, get3 t (p3 d) = .any) (hk : Keeps l a a') : TR ι n t a'.tmps := by
  refine ⟨hk.1.trans h.size, h.lim, fun i hi => ?_⟩
  by_cases hm : i ∈ l
  · rw [hp i hm]
    have : i < a'.tmps.size := by rw [hk.1, h.size]; exact hi
    exact ⟨a'.tmps[i], by simp [this], .any _⟩
  · rw [hk.2 i hm]; exact h.val i hi
/-! ### The shape of a loop over a map -/
structure MShape (c : Code) (M : ML) : Prop where
  ex : ∃ id ops rest o l it d, c = .seq (.region id ops false) rest ∧ ops.toList = o :: l ∧ o.guard = none ∧ o.dst = some d ∧ o.op = .next (.tmp it) false ∧ M = ⟨it, d, ops.toList, l, rest, wrs c⟩
theorem mapLoop_ok {c : Code} {M : ML} (h : mapLoop c = some M) : MShape c M := by
  unfold mapLoop at h
  split at h
  · rename_i id ops rest
    rw [mlOps, lEl_eq] at h
    split at h
    · cases h
    rename_i o l hol
    rw [oEl_eq] at h
    split at h
    · rename_i hg
      rw [oEl_eq] at h
      split at h
      · cases h
      rename_i d hd
      split at h
      · rename_i x hop
        cases x with
        | tmp it =>
          change some _ = some M at h
          cases h
          exact ⟨_, _, _, o, l, it, d, rfl, hol, hg, hd, hop, by rw [hol]⟩
        | const v => cases h
        | global v => cases h
        | func v => cases h
      · cases h
    · cases h
  · cases h
/-- a round -/
theorem round_ok {rec : Cd} {rd rdc : Option Nat} {m : Nat} (hrec : CdOk gs P rec) {bs : Nat} (hcs : CallsOk P X gs bs rec rdc m) {id : Nat} {ops : Array Oper} {rest : Code} {o : Oper} {l : List Oper} {it d : Nat}
    (hol : ops.toList = o :: l) (hg : o.guard = none) (hd : o.dst = some d) (hop : o.op = .next (.tmp it) false) (hB : codeB gs n (.seq (.region id ops false) rest) = true) {act : Act} {w1 : World} {v : AV} {x : Value} {t : Tm}
    (hrun : (execOp act.eval o).run P w = .ok (.value x) w1) (hv : VR ι v x) (ht : TR ι n t act.tmps) (hst : St gs bs ι H nx w1.heap) (hrd : RdR ι rd rdc) {r : R}
    (hr : roundM P X bs rec rd ⟨it, d, ops.toList, l, rest, wrs (.seq (.region id ops false) rest)⟩ v t H nx = r) (hnf : ∀ k, r ≠ .fail k) :
    (Code.seq (.region id ops false) rest).wpIn (FW rdc) m P (Post gs bs n (wrs (.seq (.region id ops false) rest)) r ι H nx w1 act) act w := by
  have hBo : ∀ p ∈ ops.toList, operB gs n p = true := by
    change bEl (allL (operB gs n) ops.toList) (codeB gs n rest) false = true at hB
    rw [bEl_eq] at hB
    split at hB
    · rename_i h1; rw [allL_eq] at h1; exact List.all_eq_true.1 h1
    · cases hB
  have hBr : codeB gs n rest = true := by
    change bEl (allL (operB gs n) ops.toList) (codeB gs n rest) false = true at hB
    rw [bEl_eq] at hB
    split at hB
    · exact hB
    · cases hB
  have hw : wrs (.seq (.region id ops false) rest) = dsts ops.toList ++ wrs rest := by
    show app (dsts ops.toList) (wrs rest) = _
    rw [app_eq]
  have hdn : d < n := operB_dst (hBo o (by rw [hol]; exact List.mem_cons_self ..)) hd
  have hsz : ops.size = l.length + 1 := by
    have := congrArg List.length hol
    simpa using this
  have hget : ops[0]? = some o := by rw [← Array.getElem?_toList, hol]; rfl
  refine wpIn_seq (wpIn_region ?_)
  rw [hsz, List.range_eq_range', List.range'_succ]
  unfold wpOpsIn
  rw [hget]
  simp only
  rw [if_pos (by simp [Region.wanted, hg])]
  refine wpIn_run (by intro c e; rw [hop] at e; cases e) ?_
  rw [hrun]
  rw [roundM, fN8_eq] at hr
  change seqK rec bs rd rest (evOps P X bs rec ops.toList l (put3 t (p3 d) v) H nx) = r at hr
  have hr0 := hr
  generalize he : evOps P X bs rec ops.toList l (put3 t (p3 d) v) H nx = r1 at hr
  have hr1 : ∀ k, r1 ≠ .fail k := by
    intro k e; subst e; exact hnf k hr.symm
  have ht1 : TR ι n (put3 t (p3 d) v) (act.put o.dst x).tmps := by
    rw [hd]; exact ht.put hdn hv
  refine evOps_ok hBo hcs l 1 (by rw [hol]; rfl) ι (put3 t (p3 d) v) H nx (act.put o.dst x) w1 r1 ht1 hst he hr1 _ ?_
  intro a' w' ι' t' H' nx' e s1 st1 tr1 k1 d1
  subst e
  change rec bs rd rest t' H' nx' = r at hr
  have hgo : Goes gs bs n (wrs (.seq (.region id ops false) rest)) ι H nx w1 act ι' t' H' nx' a' w' := by
    refine ⟨s1, st1, tr1, ?_, [], by rw [d1, put_defers]; rfl, .nil⟩
    refine Keeps.trans ((put_keeps act o x).mono fun i hi => ?_) (k1.mono fun i hi => ?_)
    · rw [hw]
      refine List.mem_append_left _ ?_
      rw [hol, dsts_cons]
      exact List.mem_append_left _ hi
    · rw [hw]
      refine List.mem_append_left _ ?_
      rw [hol, dsts_cons]
      exact List.mem_append_right _ hi
  have := hrec bs rd rest t' H' nx' n m ι' w' a' rdc (by intro k e; rw [e] at hr; exact hnf k hr.symm) hBr tr1 st1 (hrd.mono s1.ext)
  rw [hr] at this
  exact wpIn_mono this fun e a2 w2 hp => Post.trans hgo (hp.mono fun i hi => by rw [hw]; exact List.mem_append_right _ hi)
end Go.Abs
namespace Go.Abs
variable {P : Program} {X : Orc} {gs base n : Nat} {ι0 ι : Inj} {H0 : Hp} {nx0 : Nat} {w0 w : World} {a0 : Act}
/-- where a loop over a map stands, before a round -/
structure LS (gs base n : Nat) (W : List Nat) (ι0 : Inj) (H0 : Hp) (nx0 : Nat) (w0 : World) (a0 : Act) (it b mm : Nat) (mb : Im) (es : Es) (seen : List Nat) (ι : Inj) (t : Tm) (h : Hp) (nx : Nat) (act : Act) (w : World) : Prop where
  tr : TR ι n t act.tmps
  pois : ∀ d ∈ W, get3 t (p3 d) = .any
  low : base ≤ b
  inj : ι b = some mb
  ev : act.eval (.tmp it) = .pointer (some ⟨mb.c, 0, none⟩)
  itw : it ∉ W
  st : St gs base ι (put6 h (p6 b) (.mit mm es.length seen es.length)) nx w.heap
  rm : row h mm = .map es
  ne : mm ≠ b
  goes : Goes gs base n W ι0 H0 nx0 w0 a0 ι t (put6 h (p6 b) (.mit mm es.length seen es.length)) nx act w
theorem row_put2 {h : Hp} {b : Nat} (hb : b < 262144) {x : Nat} (hx : x < 262144) {Y Z : Ob} : row (put6 (put6 h (p6 b) Y) (p6 b) Z) x = row (put6 h (p6 b) Z) x := by
  by_cases e : x = b
  · subst e; rw [row_put, row_put]
  · rw [row_put_ne hb hx (fun h => e h.symm), row_put_ne hb hx (fun h => e h.symm), row_put_ne hb hx (fun h => e h.symm)]
section
variable {W : List Nat} {it b mm : Nat} {mb : Im} {es : Es} {seen : List Nat} {t : Tm} {h : Hp} {nx : Nat} {act : Act}
theorem LS.blt (S : LS gs base n W ι0 H0 nx0 w0 a0 it b mm mb es seen ι t h nx act w) : b < nx := S.st.lt S.inj
theorem LS.b6 (S : LS gs base n W ι0 H0 nx0 w0 a0 it b mm mb es seen ι t h nx act w) : b < 262144 := Nat.lt_of_lt_of_le S.blt S.st.lim
theorem LS.block (S : LS gs base n W ι0 H0 nx0 w0 a0 it b mm mb es seen ι t h nx act w) : ∃ m', ι mm = some m' ∧ w.heap[mb.c]? = some (.mapIter (some m'.c) es.length seen.reverse.toArray es.length) ∧ ∃ ents, w.heap[m'.c]? = some (.map ents es.length) ∧ EsR ι es ents := by
  obtain ⟨m', hm', hh⟩ := S.st.ob S.inj (row_put ..) rfl
  have hm6 : mm < 262144 := Nat.lt_of_lt_of_le (S.st.lt hm') S.st.lim
  obtain ⟨ents, hh2, hes⟩ := S.st.ob (ob := .map es) hm' (by rw [row_put_ne S.b6 hm6 (fun e => S.ne e.symm)]; exact S.rm) rfl
  exact ⟨m', hm', hh, ents, hh2, hes⟩
/-- the iteration's step -/
theorem LS.next (S : LS gs base n W ι0 H0 nx0 w0 a0 it b mm mb es seen ι t h nx act w) {o : Oper} (hop : o.op = .next (.tmp it) false) :
    (left seen es.length = [] → (execOp act.eval o).run P w = .ok (.value (.tuple #[.bool false])) w) ∧
    (left seen es.length ≠ [] → ∃ k ∈ left seen es.length, ∃ (q : AV × AV) (x : Value) (w1 : World), es[k]? = some q ∧ VR ι (.tuple [.bool true, q.1, q.2]) x ∧ (execOp act.eval o).run P w = .ok (.value x) w1 ∧
      Stp base ι (put6 h (p6 b) (.mit mm es.length seen es.length)) nx w ι (put6 h (p6 b) (.mit mm es.length (k :: seen) es.length)) nx w1 ∧
      St gs base ι (put6 h (p6 b) (.mit mm es.length (k :: seen) es.length)) nx w1.heap ∧ St gs base ι (put6 h (p6 b) (.one mm k es.length)) nx w1.heap) := by
  obtain ⟨m', hm', hh, ents, hh2, hes⟩ := S.block
  have hsz : ents.size = es.length := by have := hes.rel.length; simp at this; omega
  obtain ⟨n1, n2⟩ := next_map (P := P) hh hh2 hsz hes.born o.type
  have hL : ((List.range es.length).filter fun i => !seen.reverse.toArray.contains i) = left seen es.length := by
    rw [left_eq]; apply List.filter_congr; intro i _; rw [contains_rev]
  rw [hL] at n1 n2
  have lift : ∀ {x : Value} {w1 : World}, (Instr.next (.pointer (some ⟨mb.c, 0, none⟩)) false o.type).run P w = .ok x w1 → (execOp act.eval o).run P w = .ok (.value x) w1 := by
    intro x w1 h1
    have hit := S.ev
    simp only [execOp, hop, hit, Sem.run_bind, h1, Result.andThen, Sem.run_pure]
  refine ⟨fun h0 => lift (n1 h0), fun h0 => ?_⟩
  obtain ⟨k, hk, d, e, he, hrun⟩ := n2 h0
  obtain ⟨q, hq, hk1, hk2⟩ : ∃ q, es[k]? = some q ∧ VR ι q.1 e.key ∧ VR ι q.2 e.val := by
    have hkl : k < es.length := by
      have := (List.mem_filter.1 (by rw [left_eq] at hk; exact hk)).1
      simpa using this
    obtain ⟨e', he', h1, h2⟩ := hes.rel.get k es[k] (by simp [hkl])
    rw [Array.getElem?_toList, he] at he'; cases he'
    exact ⟨es[k], by simp [hkl], h1, h2⟩
  have hbl := S.blt
  have hb6 := S.b6
  have hl : (row (put6 h (p6 b) (.mit mm es.length seen es.length)) b).plain = true := by rw [row_put]; rfl
  have hst := S.st.drawn (w := w) d
  have s1 := Stp.set (w := { w with drawn := d }) (w' := World.setB { w with drawn := d } mb.c (.mapIter (some m'.c) es.length (seen.reverse.toArray.push k) es.length)) hst hbl S.low S.inj hl (ob := .mit mm es.length (k :: seen) es.length) (o := .mapIter (some m'.c) es.length (seen.reverse.toArray.push k) es.length) rfl rfl rfl rfl
  have st1 := hst.set hbl S.inj (Ob.plain_live hl) (ob := .mit mm es.length (k :: seen) es.length) (o := .mapIter (some m'.c) es.length (seen.reverse.toArray.push k) es.length) ⟨m', hm', by simp⟩
  have st2 := hst.set hbl S.inj (Ob.plain_live hl) (ob := .one mm k es.length) (o := .mapIter (some m'.c) es.length (seen.reverse.toArray.push k) es.length) ⟨m', es.length, seen.reverse.toArray, hm', rfl⟩
  refine ⟨k, hk, q, _, _, hq, .tuple _ _ (.cons _ _ _ _ (.bool _) (.cons _ _ _ _ hk1 (.cons _ _ _ _ hk2 .nil))), lift hrun, ?_, st1.rows fun x hx => (row_put2 hb6 hx).symm, st2.rows fun x hx => (row_put2 hb6 hx).symm⟩
  refine ((Stp.drawn w d).trans s1).relabel (b := b) (fun _ _ _ => rfl) (by rw [row_put]; rfl) (fun _ _ _ => by rw [row_put]; simp) (by rw [row_put]; rfl) (fun x hx hne => ?_) fun _ => by rw [row_put]; rfl
  rw [row_put_ne hb6 (by have := S.st.lim; omega) (fun e => hne e.symm), row_put_ne hb6 (by have := S.st.lim; omega) (fun e => hne e.symm), row_put_ne hb6 (by have := S.st.lim; omega) (fun e => hne e.symm)]
end
theorem left_cons {seen : List Nat} {N k : Nat} (hk : k ∈ left seen N) : (left (k :: seen) N).length < (left seen N).length ∧ ∀ j ∈ left (k :: seen) N, j ∈ left seen N ∧ j ≠ k := by
  rw [left_eq, left_eq] at *
  have hsub : ∀ j ∈ (List.range N).filter (fun i => !(k :: seen).contains i), j ∈ (List.range N).filter (fun i => !seen.contains i) ∧ j ≠ k := by
    intro j hj
    rw [List.mem_filter] at hj ⊢
    simp only [List.contains_cons, Bool.not_or, Bool.and_eq_true, Bool.not_eq_true', beq_eq_false_iff_ne] at hj
    exact ⟨⟨hj.1, by simpa using hj.2.2⟩, hj.2.1⟩
  refine ⟨?_, hsub⟩
  have e : (List.range N).filter (fun i => !(k :: seen).contains i) = ((List.range N).filter (fun i => !seen.contains i)).filter (fun i => i != k) := by
    rw [List.filter_filter]
    apply List.filter_congr
    intro i _
    simp only [List.contains_cons, Bool.not_or, bne]
  rw [e]
  exact List.length_filter_lt_length_iff_exists.2 ⟨k, hk, by simp⟩
theorem isNorm_ok {r : R} (h : isNorm r = true) : ∃ t h nx, r = .norm t h nx := by
  cases r with
  | norm t h' nx => exact ⟨t, h', nx, rfl⟩
  | _ => cases h
theorem idleAll_ok {P : Program} {X : Orc} {rec : Cd} {rd : Option Nat} {M : ML} {b m n : Nat} {es : Es} {t : Tm} {h : Hp} {nx : Nat} : ∀ {l : List Nat}, idleAll P X rec rd M b m n es t h nx l = true → ∀ i ∈ l, idle P X rec rd M b m n es t h nx i = true
  | [], _, i, hi => by cases hi
  | k :: l, hh, i, hi => by
    change bEl (idle P X rec rd M b m n es t h nx k) (idleAll P X rec rd M b m n es t h nx l) false = true at hh
    rw [bEl_eq] at hh
    split at hh
    case isFalse => cases hh
    rename_i hk
    rcases List.mem_cons.1 hi with rfl | hi
    · exact hk
    · exact idleAll_ok hh i hi
/-- what is given of a loop over a map -/
structure LG (P : Program) (X : Orc) (gs n : Nat) (rec : Cd) (rd rdc : Option Nat) (m : Nat) (c : Code) (M : ML) (id : Nat) (ops : Array Oper) (rest : Code) (o : Oper) (l : List Oper) (it d : Nat) : Prop where
  rec' : CdOk gs P rec
  calls : ∀ bs, CallsOk P X gs bs rec rdc m
  code : c = .seq (.region id ops false) rest
  hol : ops.toList = o :: l
  hg : o.guard = none
  hd : o.dst = some d
  hop : o.op = .next (.tmp it) false
  hM : M = ⟨it, d, ops.toList, l, rest, wrs c⟩
  bound : codeB gs n c = true
section
variable {rec : Cd} {rd rdc : Option Nat} {m : Nat} {c : Code} {M : ML} {id : Nat} {ops : Array Oper} {rest : Code} {o : Oper} {l : List Oper} {it d : Nat} {b mm : Nat} {mb : Im} {es : Es} {seen : List Nat} {t : Tm} {h : Hp} {nx : Nat} {act : Act}
theorem LG.round (G : LG P X gs n rec rd rdc m c M id ops rest o l it d) {bs : Nat} {H : Hp} {w1 : World} {v : AV} {x : Value} {r : R} (hrun : (execOp act.eval o).run P w = .ok (.value x) w1) (hv : VR ι v x) (ht : TR ι n t act.tmps) (hst : St gs bs ι H nx w1.heap) (hrd : RdR ι rd rdc)
    (hr : roundM P X bs rec rd M v t H nx = r) (hnf : ∀ k, r ≠ .fail k) : c.wpIn (FW rdc) m P (Post gs bs n M.w r ι H nx w1 act) act w := by
  have hM := G.hM
  have hc := G.code
  have hB := G.bound
  subst hM
  subst hc
  exact round_ok G.rec' (G.calls bs) G.hol G.hg G.hd G.hop hB hrun hv ht hst hrd hr hnf
/-- an entry that does nothing -/
theorem idle_round (G : LG P X gs n rec rd rdc m c M id ops rest o l it d) (S : LS gs base n M.w ι0 H0 nx0 w0 a0 it b mm mb es seen ι t h nx act w) (hrd : RdR ι rd rdc) {k : Nat} {q : AV × AV} {x : Value} {w1 : World} (hq : es[k]? = some q) (hv : VR ι (.tuple [.bool true, q.1, q.2]) x)
    (hrun : (execOp act.eval o).run P w = .ok (.value x) w1) (s1 : Stp base ι (put6 h (p6 b) (.mit mm es.length seen es.length)) nx w ι (put6 h (p6 b) (.mit mm es.length (k :: seen) es.length)) nx w1)
    (st1 : St gs base ι (put6 h (p6 b) (.mit mm es.length (k :: seen) es.length)) nx w1.heap) (st2 : St gs base ι (put6 h (p6 b) (.one mm k es.length)) nx w1.heap)
    (hidle : idle P X rec rd M b mm es.length es t h nx k = true) {K : Act → World → Prop} {Q : Exit → Act → World → Prop} (hK : ∀ act' w', LS gs base n M.w ι0 H0 nx0 w0 a0 it b mm mb es (k :: seen) ι t h nx act' w' → K act' w') :
    c.wpIn (FW rdc) m P (Exit.then K Q) act w := by
  rw [idle, oneM, oEl_eq, nth_eq, hq] at hidle
  simp only [fN8_eq] at hidle
  obtain ⟨t2, h2, nx2, hr⟩ := isNorm_ok hidle
  have := G.round (bs := nx) hrun hv S.tr st2.rebase hrd hr (by simp)
  refine wpIn_mono this ?_
  rintro e act2 w2 ⟨t3, H3, nx3, ι3, hfit, hgo⟩
  obtain ⟨rfl, rfl, rfl, rfl⟩ := hfit
  refine hK act2 w2 ?_
  have s2 : Stp base ι (put6 h (p6 b) (.mit mm es.length (k :: seen) es.length)) nx w1 ι (put6 h (p6 b) (.mit mm es.length (k :: seen) es.length)) nx w2 := hgo.stp.still
  have st3 : St gs base ι (put6 h (p6 b) (.mit mm es.length (k :: seen) es.length)) nx w2.heap := st1.carry hgo.stp.size fun c hc => hgo.stp.all_same hc
  have htr : TR ι n t act2.tmps := S.tr.kept S.pois hgo.keeps
  refine ⟨htr, S.pois, S.low, S.inj, ?_, S.itw, st3, S.rm, S.ne, S.goes.trans ⟨s1.trans s2, st3, htr, hgo.keeps, ?_⟩⟩
  · have := hgo.keeps.2 it S.itw
    rw [← S.ev]
    simp only [Act.eval, Array.getD_eq_getD_getElem?, this]
  · obtain ⟨ds, e, mk⟩ := hgo.marks
    refine ⟨ds, e, fun d hd => ?_, mk.apart⟩
    obtain ⟨c, h1, h2, h3, h4, _⟩ := mk.all d hd
    refine ⟨c, h1, Nat.le_trans s1.size h2, h3, h4, ?_⟩
    rintro ⟨x, m', _, e', hc, _⟩
    have := st1.old x m' e'
    omega
/-- the end of the iteration -/
theorem over_round (G : LG P X gs n rec rd rdc m c M id ops rest o l it d) (S : LS gs base n M.w ι0 H0 nx0 w0 a0 it b mm mb es seen ι t h nx act w) (hrd : RdR ι rd rdc) (hrun : (execOp act.eval o).run P w = .ok (.value (.tuple #[.bool false])) w) {r : R}
    (hr : overM P X base rec rd M b t h nx = r) (hnf : ∀ k, r ≠ .fail k) {K : Act → World → Prop} : c.wpIn (FW rdc) m P (Exit.then K (Post gs base n M.w r ι0 H0 nx0 w0 a0)) act w := by
  have hb6 := S.b6
  rw [overM, write, bEl_eq] at hr
  split at hr
  case isFalse => exact absurd hr.symm (hnf _)
  rw [fN8_eq] at hr
  change (roundM P X base rec rd M over t (put6 h (p6 b) .dead) nx).el .fail (fun _ _ _ => .fail 131) .exit .ret = r at hr
  generalize hr1 : roundM P X base rec rd M over t (put6 h (p6 b) .dead) nx = r1 at hr
  have hrow : ∀ x, x < 262144 → x ≠ b → row (put6 h (p6 b) .dead) x = row (put6 h (p6 b) (.mit mm es.length seen es.length)) x := fun x hx hne => by
    rw [row_put_ne hb6 hx (fun e => hne e.symm), row_put_ne hb6 hx (fun e => hne e.symm)]
  have st1 : St gs base ι (put6 h (p6 b) .dead) nx w.heap := S.st.relabel S.blt S.inj (by rw [row_put]; rfl) hrow (by rw [row_put]; trivial)
  have s1 : Stp base ι (put6 h (p6 b) (.mit mm es.length seen es.length)) nx w ι (put6 h (p6 b) .dead) nx w :=
    (Stp.refl base ι (put6 h (p6 b) (.mit mm es.length seen es.length)) nx w).relabel (b := b) (fun _ _ _ => rfl) (by rw [row_put]; rfl) (fun _ _ _ => by rw [row_put]; simp) (by rw [row_put]; rfl) (fun x hx hne => hrow x (by have := S.st.lim; omega) hne) (by rw [row_put]; intro h; cases h)
  have hgo : Goes gs base n M.w ι0 H0 nx0 w0 a0 ι t (put6 h (p6 b) .dead) nx act w := S.goes.trans ⟨s1, st1, S.tr, .refl .., [], rfl, .nil⟩
  have hnf1 : ∀ k, r1 ≠ .fail k := by intro k e; subst e; exact hnf k hr.symm
  have := G.round (bs := base) hrun (v := over) (.tuple _ _ (.cons _ _ _ _ (.bool _) .nil)) S.tr st1 hrd hr1 hnf1
  refine wpIn_mono this ?_
  rintro e act2 w2 hp
  cases r1 with
  | fail k => exact absurd rfl (hnf1 k)
  | norm t1 h1 k1 => exact absurd hr.symm (hnf _)
  | exit id' t1 h1 k1 =>
    have hr : R.exit id' t1 h1 k1 = r := hr
    subst hr
    obtain ⟨t3, H3, nx3, ι3, ⟨rfl, rfl, rfl, rfl⟩, hgo2⟩ := hp
    exact ⟨_, _, _, ι3, ⟨rfl, rfl, rfl, rfl⟩, hgo.trans hgo2⟩
  | ret t1 h1 k1 =>
    have hr : R.ret t1 h1 k1 = r := hr
    subst hr
    obtain ⟨t3, H3, nx3, ι3, ⟨rfl, rfl, rfl, rfl⟩, hgo2⟩ := hp
    exact ⟨_, _, _, ι3, ⟨rfl, rfl, rfl, rfl⟩, hgo.trans hgo2⟩
/-- all that is left does nothing -/
theorem idle_loop (G : LG P X gs n rec rd rdc m c M id ops rest o l it d) {r : R} (hr : overM P X base rec rd M b t h nx = r) (hnf : ∀ k, r ≠ .fail k) (hrd : RdR ι rd rdc) : ∀ (N : Nat) (seen : List Nat) (act : Act) (w : World), (left seen es.length).length = N →
    (∀ k ∈ left seen es.length, idle P X rec rd M b mm es.length es t h nx k = true) → LS gs base n M.w ι0 H0 nx0 w0 a0 it b mm mb es seen ι t h nx act w → (Code.loop c).wpIn (FW rdc) m P (Post gs base n M.w r ι0 H0 nx0 w0 a0) act w := by
  intro N
  induction N using Nat.strongRecOn with
  | _ N ih =>
    intro seen act w hN hall S
    obtain ⟨n1, n2⟩ := S.next (P := P) G.hop
    refine wpIn_loop_next (fun e a w hq => hq.exits) ?_
    by_cases h0 : left seen es.length = []
    · exact over_round G S hrd (n1 h0) hr hnf
    · obtain ⟨k, hk, q, x, w1, hq, hv, hrun, s1, st1, st2⟩ := n2 h0
      obtain ⟨c1, c2⟩ := left_cons hk
      exact idle_round G S hrd hq hv hrun s1 st1 st2 (hall k hk) fun act' w' S' => ih _ (by omega) (k :: seen) act' w' rfl (fun j hj => hall j (c2 j hj).1) S'
/-- one that does something is among those left -/
theorem one_loop (G : LG P X gs n rec rd rdc m c M id ops rest o l it d) {r : R} {i : Nat} {others : List Nat} (hr : behindM P X base rec rd M b mm es.length others (oneM P X base rec rd M b mm es.length es i t h nx) = r) (hnf : ∀ k, r ≠ .fail k) (hrd : RdR ι rd rdc) :
    ∀ (N : Nat) (seen : List Nat) (act : Act) (w : World), (left seen es.length).length = N → i ∈ left seen es.length →
    (∀ k ∈ left seen es.length, k ≠ i → idle P X rec rd M b mm es.length es t h nx k = true) → (∀ k ∈ left seen es.length, k ≠ i → k ∈ others) → LS gs base n M.w ι0 H0 nx0 w0 a0 it b mm mb es seen ι t h nx act w →
      (Code.loop c).wpIn (FW rdc) m P (Post gs base n M.w r ι0 H0 nx0 w0 a0) act w := by
  intro N
  induction N using Nat.strongRecOn with
  | _ N ih =>
    intro seen act w hN hi hall hoth S
    obtain ⟨n1, n2⟩ := S.next (P := P) G.hop
    refine wpIn_loop_next (fun e a w hq => hq.exits) ?_
    have h0 : left seen es.length ≠ [] := fun e => by rw [e] at hi; cases hi
    obtain ⟨k, hk, q, x, w1, hq, hv, hrun, s1, st1, st2⟩ := n2 h0
    obtain ⟨c1, c2⟩ := left_cons hk
    have keepm : ∀ j ∈ left seen es.length, j ≠ k → j ∈ left (k :: seen) es.length := fun j hj hne => by
      rw [left_eq, List.mem_filter] at hj ⊢
      refine ⟨hj.1, ?_⟩
      simp only [List.contains_cons, Bool.not_or, Bool.and_eq_true, Bool.not_eq_true', beq_eq_false_iff_ne]
      exact ⟨hne, by simpa using hj.2⟩
    by_cases hki : k = i
    · -- this one
      subst hki
      have hb6 := S.b6
      rw [oneM, oEl_eq, nth_eq, hq] at hr
      simp only [fN8_eq] at hr
      generalize hr1 : roundM P X base rec rd M (.tuple [.bool true, q.1, q.2]) t (put6 h (p6 b) (.one mm k es.length)) nx = r1 at hr
      have hnf1 : ∀ j, r1 ≠ .fail j := by intro j e; subst e; exact hnf j hr.symm
      have := G.round (bs := base) hrun hv S.tr st2 hrd hr1 hnf1
      refine wpIn_mono this ?_
      rintro e act2 w2 ⟨t3, H3, nx3, ι3, hfit, hgo⟩
      -- the state behind, with the iteration's row as it is in truth
      have hone := hgo.stp.one b mm k es.length S.blt (row_put ..)
      have hbn3 : b < nx3 := Nat.lt_of_lt_of_le S.blt hgo.stp.up
      have hrelS : ∀ (Y : Ob), (Y.live = true → True) → Stp base ι (put6 h (p6 b) (.mit mm es.length (k :: seen) es.length)) nx w1 ι3 (put6 H3 (p6 b) Y) nx3 w2 := fun Y _ => by
        refine hgo.stp.relabel (b := b) (fun x hx hne => ?_) (by rw [row_put]; rfl) (fun _ _ _ => by rw [row_put]; simp) (by rw [row_put]; rfl) (fun x hx hne => ?_) (fun _ => by rw [hone.1]; rfl)
        · rw [row_put_ne hb6 (by have := S.st.lim; omega) (fun e => hne e.symm), row_put_ne hb6 (by have := S.st.lim; omega) (fun e => hne e.symm)]
        · rw [row_put_ne hb6 (by have := hgo.st.lim; omega) (fun e => hne e.symm)]
      have hrel3 : Stp base ι (put6 h (p6 b) (.mit mm es.length (k :: seen) es.length)) nx w1 ι3 H3 nx3 w2 := by
        refine hgo.stp.relabel (b := b) (fun x hx hne => ?_) (by rw [row_put]; rfl) (fun _ _ _ => by rw [row_put]; simp) (by rw [row_put]; rfl) (fun x hx hne => rfl) (fun h => h)
        rw [row_put_ne hb6 (by have := S.st.lim; omega) (fun e => hne e.symm), row_put_ne hb6 (by have := S.st.lim; omega) (fun e => hne e.symm)]
      have hmarks : ∀ {Hx : Hp}, (∀ x, x < nx3 → (row Hx x).live = true → (row H3 x).live = true) → ∃ ds, act2.defers = ds ++ act.defers ∧ Marks w.heap.size ι3 Hx nx3 w2 ds := fun hlive => by
        obtain ⟨ds, e, mk⟩ := hgo.marks
        refine ⟨ds, e, fun d hd => ?_, mk.apart⟩
        obtain ⟨c, h1, h2, h3, h4, h5⟩ := mk.all d hd
        exact ⟨c, h1, Nat.le_trans s1.size h2, h3, h4, fun ⟨x, m', hx, e', hc, hl⟩ => h5 ⟨x, m', hx, e', hc, hlive x hx hl⟩⟩
      have hgo3 : Goes gs base n M.w ι0 H0 nx0 w0 a0 ι3 t3 H3 nx3 act2 w2 := S.goes.trans ⟨s1.trans hrel3, hgo.st, hgo.tr, hgo.keeps, hmarks fun _ _ h => h⟩
      cases r1 with
      | fail j => exact absurd rfl (hnf1 j)
      | exit id' t1 h1 k1 =>
        have hr : R.exit id' t1 h1 k1 = r := hr
        subst hr
        obtain ⟨rfl, rfl, rfl, rfl⟩ := hfit
        exact ⟨_, _, _, ι3, ⟨rfl, rfl, rfl, rfl⟩, hgo3⟩
      | ret t1 h1 k1 =>
        have hr : R.ret t1 h1 k1 = r := hr
        subst hr
        obtain ⟨rfl, rfl, rfl, rfl⟩ := hfit
        exact ⟨_, _, _, ι3, ⟨rfl, rfl, rfl, rfl⟩, hgo3⟩
      | norm t1 h1 k1 =>
        obtain ⟨rfl, rfl, rfl, rfl⟩ := hfit
        rw [behindM, R.el_eq] at hr
        simp only [fN8_eq, onMapOb_eq] at hr
        split at hr
        case h_2 => exact absurd hr.symm (hnf _)
        rename_i es2 hes2
        rw [bEl_eq, len_eq] at hr
        split at hr
        case isFalse => exact absurd hr.symm (hnf _)
        rename_i hlen
        have hlen : es2.length = es.length := Nat.eq_of_beq_eq_true hlen
        rw [bEl_eq] at hr
        split at hr
        case isFalse => exact absurd hr.symm (hnf _)
        rename_i hidle
        show (Code.loop c).wpIn (FW rdc) m P _ act2 w2
        have inj3 := hgo.stp.ext _ _ S.inj
        obtain ⟨m', hm', _⟩ := S.block
        have hm3 := hgo.stp.ext _ _ hm'
        have hblk : w2.heap[mb.c]? = w1.heap[mb.c]? := hone.2 mb S.inj (st1.old _ _ S.inj)
        have hobj : ObR gs ι mb (.mit mm es.length (k :: seen) es.length) w1.heap[mb.c]? := st1.ob S.inj (row_put ..) rfl
        have hmit : St gs base ι3 (put6 H3 (p6 b) (.mit mm es2.length (k :: seen) es2.length)) nx3 w2.heap := by
          refine hgo.st.relabel hbn3 inj3 (by rw [hone.1]; rfl) (fun x hx hne => row_put_ne hb6 hx (fun e => hne e.symm)) ?_
          rw [row_put, hblk, hlen]
          exact hobj.mono hgo.stp.ext
        have hS : LS gs base n M.w ι0 H0 nx0 w0 a0 it b mm mb es2 (k :: seen) ι3 (poison M.w t3) H3 nx3 act2 w2 := by
          have hgoes : Goes gs base n M.w ι0 H0 nx0 w0 a0 ι3 (poison M.w t3) (put6 H3 (p6 b) (.mit mm es2.length (k :: seen) es2.length)) nx3 act2 w2 :=
            S.goes.trans ⟨s1.trans (hrelS _ fun _ => trivial), hmit, hgo.tr.poison _, hgo.keeps, hmarks fun x hx hl => by
              by_cases e : x = b
              · subst e; rw [hone.1]; rfl
              · rw [row_put_ne hb6 (by have := hgo.st.lim; omega) (fun e' => e e'.symm)] at hl; exact hl⟩
          refine ⟨hgo.tr.poison _, poison_any M.w t3, S.low, inj3, ?_, S.itw, hmit, hes2, S.ne, hgoes⟩
          have := hgo.keeps.2 it S.itw
          rw [← S.ev]
          simp only [Act.eval, Array.getD_eq_getD_getElem?, this]
        refine idle_loop G hr hnf (hrd.mono hgo.stp.ext) _ (k :: seen) act2 w2 rfl (fun j hj => ?_) hS
        rw [hlen] at hj ⊢
        obtain ⟨c3, c4⟩ := c2 j hj
        exact idleAll_ok hidle j (hoth j c3 c4)
    · refine idle_round G S hrd hq hv hrun s1 st1 st2 (hall k hk hki) fun act' w' S' => ih _ (by omega) (k :: seen) act' w' rfl (keepm i hi (fun e => hki e.symm)) (fun j hj => hall j (c2 j hj).1) (fun j hj => hoth j (c2 j hj).1) S'
end
end Go.Abs
namespace Go.Abs
variable {P : Program} {X : Orc} {gs base n : Nat} {ι : Inj} {H : Hp} {nx : Nat} {w : World} {act : Act}
variable {rec : Cd} {rd rdc : Option Nat} {m : Nat} {c : Code} {M : ML}
theorem entriesM_ok {b mm k : Nat} {es : Es} {t : Tm} {h : Hp} {r : R} (hnf : ∀ k, r ≠ .fail k) : ∀ {l ahead : List Nat}, entriesM P X base rec rd M b mm k es t h nx l ahead = r →
    ((∀ i ∈ l, idle P X rec rd M b mm k es t h nx i = true) ∧ overM P X base rec rd M b t h nx = r) ∨
    ∃ i others, i ∈ l ∧ (∀ j ∈ l, j ≠ i → idle P X rec rd M b mm k es t h nx j = true ∧ j ∈ others) ∧ (∀ j ∈ ahead, j ∈ others) ∧ behindM P X base rec rd M b mm k others (oneM P X base rec rd M b mm k es i t h nx) = r
  | [], ahead, hh => .inl ⟨by simp, hh⟩
  | i :: l, ahead, hh => by
    change bEl (idle P X rec rd M b mm k es t h nx i) (entriesM P X base rec rd M b mm k es t h nx l (i :: ahead)) (bEl (idleAll P X rec rd M b mm k es t h nx l) (behindM P X base rec rd M b mm k (app ahead l) (oneM P X base rec rd M b mm k es i t h nx)) (.fail 134)) = r at hh
    rw [bEl_eq] at hh
    split at hh
    · rename_i hi
      rcases entriesM_ok hnf hh with ⟨h1, h2⟩ | ⟨i', others, h1, h2, h3, h4⟩
      · refine .inl ⟨fun j hj => ?_, h2⟩
        rcases List.mem_cons.1 hj with rfl | hj
        · exact hi
        · exact h1 j hj
      · refine .inr ⟨i', others, List.mem_cons_of_mem _ h1, fun j hj hne => ?_, fun j hj => h3 j (List.mem_cons_of_mem _ hj), h4⟩
        rcases List.mem_cons.1 hj with rfl | hj
        · exact ⟨hi, h3 _ (List.mem_cons_self ..)⟩
        · exact h2 j hj hne
    · rw [bEl_eq] at hh
      split at hh
      case isFalse => exact absurd hh.symm (hnf _)
      rename_i hall
      refine .inr ⟨i, app ahead l, List.mem_cons_self .., fun j hj hne => ?_, fun j hj => by rw [app_eq]; exact List.mem_append_left _ hj, hh⟩
      rcases List.mem_cons.1 hj with rfl | hj
      · exact absurd rfl hne
      · exact ⟨idleAll_ok hall j hj, by rw [app_eq]; exact List.mem_append_right _ hj⟩
/-- a loop, a round at a time -/
theorem loop_plain (hrec : CdOk gs P rec) (hB : codeB gs n c = true) {t : Tm} (ht : TR ι n t act.tmps) (hst : St gs base ι H nx w.heap) (hrd : RdR ι rd rdc) {r : R}
    (hr : seqK rec base rd (.loop c) (rec base rd c t H nx) = r) (hnf : ∀ k, r ≠ .fail k) : (Code.loop c).wpIn (FW rdc) m P (Post gs base n (wrs c) r ι H nx w act) act w := by
  refine wpIn_loop_next (fun e a w hq => hq.exits) ?_
  have hnf1 : ∀ k, rec base rd c t H nx ≠ .fail k := by intro k e; rw [e] at hr; exact hnf k hr.symm
  refine wpIn_mono (hrec base rd c t H nx n m ι w act rdc hnf1 hB ht hst hrd) ?_
  rintro e a' w' ⟨t1, H1, nx1, ι1, hfit, hgo⟩
  generalize rec base rd c t H nx = r1 at hr hfit
  cases r1 with
  | fail k => exact hfit.elim
  | norm t2 h2 k2 =>
    obtain ⟨rfl, rfl, rfl, rfl⟩ := hfit
    change rec base rd (.loop c) t1 H1 nx1 = r at hr
    have := hrec base rd (.loop c) t1 H1 nx1 n m ι1 w' a' rdc (by intro k e; rw [e] at hr; exact hnf k hr.symm) hB hgo.tr hgo.st (hrd.mono hgo.stp.ext)
    rw [hr] at this
    exact wpIn_mono this fun e a2 w2 hp => Post.trans hgo hp
  | exit id t2 h2 k2 =>
    obtain ⟨rfl, rfl, rfl, rfl⟩ := hfit
    have hr : R.exit id t1 H1 nx1 = r := hr
    subst hr
    exact ⟨_, _, _, ι1, ⟨rfl, rfl, rfl, rfl⟩, hgo⟩
  | ret t2 h2 k2 =>
    obtain ⟨rfl, rfl, rfl, rfl⟩ := hfit
    have hr : R.ret t1 H1 nx1 = r := hr
    subst hr
    exact ⟨_, _, _, ι1, ⟨rfl, rfl, rfl, rfl⟩, hgo⟩
theorem loopK_ok (hcs : ∀ bs, CallsOk P X gs bs rec rdc m) (hrec : CdOk gs P rec) (hB : codeB gs n c = true) {t : Tm} (ht : TR ι n t act.tmps) (hst : St gs base ι H nx w.heap) (hrd : RdR ι rd rdc) {r : R}
    (hr : loopK P X base rec rd c t H nx = r) (hnf : ∀ k, r ≠ .fail k) : (Code.loop c).wpIn (FW rdc) m P (Post gs base n (wrs c) r ι H nx w act) act w := by
  rw [loopK, oEl_eq] at hr
  split at hr
  · exact loop_plain hrec hB ht hst hrd hr hnf
  rename_i M hM
  obtain ⟨id, ops, rest, o, l, it, d, rfl, hol, hg, hd, hop, rfl⟩ := (mapLoop_ok hM).ex
  rw [loopM, onPtr_eq] at hr
  split at hr
  case h_2 => exact loop_plain hrec hB ht hst hrd hr hnf
  rename_i b p hp
  rw [onMitOb_eq] at hr
  split at hr
  case h_2 => exact loop_plain hrec hB ht hst hrd hr hnf
  rename_i mm since seen st hrow
  rw [onMapOb_eq] at hr
  split at hr
  case h_2 => exact loop_plain hrec hB ht hst hrd hr hnf
  rename_i es hes
  rw [lEl_eq] at hr
  split at hr
  · exact loop_plain hrec hB ht hst hrd hr hnf
  rename_i i l1 hleft
  rw [lEl_eq] at hr
  split at hr
  · exact loop_plain hrec hB ht hst hrd hr hnf
  rename_i j l2
  rw [bEl_eq] at hr
  split at hr
  case isFalse => exact absurd hr.symm (hnf _)
  rename_i hcond
  simp only [band_eq, bnot_eq, Bool.and_eq_true, Bool.not_eq_true', memN_eq, len_eq] at hcond
  obtain ⟨hw, hp0, hst1, hlen, hbase⟩ := hcond
  have hp0 : p = 0 := Nat.eq_of_beq_eq_true hp0
  have hst1 : st = since := Nat.eq_of_beq_eq_true hst1
  have hlen : es.length = since := Nat.eq_of_beq_eq_true hlen
  have hbase : base ≤ b := Nat.le_of_ble_eq_true hbase
  subst hp0 hst1 hlen
  rw [fN8_eq] at hr
  rw [← hleft] at hr
  have G : LG P X gs n rec rd rdc m (.seq (.region id ops false) rest) ⟨it, d, ops.toList, l, rest, wrs (.seq (.region id ops false) rest)⟩ id ops rest o l it d := ⟨hrec, hcs, rfl, hol, hg, hd, hop, rfl, hB⟩
  have hBo : operB gs n o = true := by
    change bEl (allL (operB gs n) ops.toList) (codeB gs n rest) false = true at hB
    rw [bEl_eq] at hB
    split at hB
    · rename_i h1; rw [allL_eq] at h1; exact List.all_eq_true.1 h1 o (by rw [hol]; exact List.mem_cons_self ..)
    · cases hB
  have hit := opds_ok ht hst.glob hBo (.tmp it) (by rw [hop]; exact List.mem_cons_self ..)
  change VR ι (get3 t (p3 it)) (act.eval (.tmp it)) at hit
  rw [hp] at hit
  obtain ⟨mb, hmb, hs0, hev⟩ := hit.ptr_inv
  have e0 : 0 - mb.s = 0 := by omega
  rw [e0] at hev
  have hb6 : b < 262144 := Nat.lt_of_lt_of_le (hst.lt hmb) hst.lim
  have hrows : ∀ x, x < 262144 → row (put6 H (p6 b) (.mit mm es.length seen es.length)) x = row H x := fun x hx => by
    by_cases e : x = b
    · subst e; rw [row_put, hrow]
    · exact row_put_ne hb6 hx (fun e' => e e'.symm)
  have hst' := hst.rows hrows
  have S : LS gs base n (wrs (.seq (.region id ops false) rest)) ι H nx w act it b mm mb es seen ι (poison (wrs (.seq (.region id ops false) rest)) t) H nx act w := by
    refine ⟨ht.poison _, poison_any _ t, hbase, hmb, hev, ?_, hst', hes, (fun e => by rw [e, hrow] at hes; cases hes), ⟨?_, hst', ht.poison _, .refl .., [], rfl, .nil⟩⟩
    · intro hm
      have : (wrs (.seq (.region id ops false) rest)).contains it = true := by simpa using hm
      rw [hw] at this; cases this
    · exact (Stp.refl base ι H nx w).relabel (b := b) (fun _ _ _ => rfl) (by rw [hrow]; rfl) (fun _ _ _ => by rw [hrow]; simp) (by rw [hrow]; rfl) (fun x hx _ => hrows x (by have := hst.lim; omega)) fun _ => by rw [hrow]; rfl
  rcases entriesM_ok hnf hr with ⟨h1, h2⟩ | ⟨i', others, h1, h2, h3, h4⟩
  · exact idle_loop G h2 hnf hrd _ seen act w rfl h1 S
  · exact one_loop G h4 hnf hrd _ seen act w rfl h1 (fun k hk hne => (h2 k hk hne).1) (fun k hk hne => (h2 k hk hne).2) S
end Go.Abs
namespace Go.Abs
variable {P : Program} {X : Orc} {rec : Cd}
theorem regionB {gs n : Nat} {id : Nat} {ops : Array Oper} {dr : Bool} (h : codeB gs n (.region id ops dr) = true) : ∀ p ∈ ops.toList, operB gs n p = true := by
  change allL (operB gs n) ops.toList = true at h
  rw [allL_eq] at h; exact List.all_eq_true.1 h
theorem codeD_ok (hN : NamesOk P) (hX : OrcOk P.globals.size P X) (hmix : P.follows .mixedOrders = true) (hrec : CdOk P.globals.size P rec) : CdOk P.globals.size P (fun base rd c t h nx => codeD P X rec base rd c t h nx) := by
  intro base rd c t H nx n m ι w a rdc hnf0 hB ht hst hrd
  have hcs : ∀ bs, CallsOk P X P.globals.size bs rec rdc m := fun bs => callsOk hN hX hrec
  show c.wpIn (FW rdc) m P (Post P.globals.size base n (wrs c) (codeD P X rec base rd c t H nx) ι H nx w a) a w
  generalize hr : codeD P X rec base rd c t H nx = r
  have hnf : ∀ k, r ≠ .fail k := fun k e => hnf0 k (hr.trans e)
  clear hnf0
  cases c with
  | skip =>
    have hr : R.norm t H nx = r := hr
    subst hr
    exact wpIn_skip ⟨_, _, _, ι, ⟨rfl, rfl, rfl, rfl⟩, .refl hst ht⟩
  | label l =>
    have hr : R.norm t H nx = r := hr
    subst hr
    exact wpIn_label ⟨_, _, _, ι, ⟨rfl, rfl, rfl, rfl⟩, .refl hst ht⟩
  | exit id =>
    have hr : R.exit id t H nx = r := hr
    subst hr
    exact wpIn_exit ⟨_, _, _, ι, ⟨rfl, rfl, rfl, rfl⟩, .refl hst ht⟩
  | ret =>
    have hr : R.ret t H nx = r := hr
    subst hr
    exact wpIn_ret ⟨_, _, _, ι, ⟨rfl, rfl, rfl, rfl⟩, .refl hst ht⟩
  | scope b => exact absurd hr.symm (hnf 114)
  | goto l => exact absurd hr.symm (hnf 114)
  | refuse why => exact absurd hr.symm (hnf 115)
  | region id ops dr =>
    change bEl dr (evDraw P X base rec ops.toList t H nx) (evOps P X base rec ops.toList ops.toList t H nx) = r at hr
    rw [bEl_eq] at hr
    have hBo := regionB hB
    split at hr
    · rename_i hdr
      rw [hdr]
      refine evDraw_ok hmix (hcs base) hBo ht hst hr hnf ?_
      intro a' w' ι' t' H' nx' e s1 st1 tr1 k1 d1
      exact ⟨t', H', nx', ι', by rw [e]; exact ⟨rfl, rfl, rfl, rfl⟩, s1, st1, tr1, k1, [], by rw [d1]; rfl, .nil⟩
    · rename_i hdr
      have hdr : dr = false := by simpa using hdr
      rw [hdr]
      refine wpIn_region ?_
      have hsz : ops.size = ops.toList.length := by simp
      rw [hsz, List.range_eq_range']
      refine evOps_ok hBo (hcs base) ops.toList 0 rfl ι t H nx a w r ht hst hr hnf _ ?_
      intro a' w' ι' t' H' nx' e s1 st1 tr1 k1 d1
      exact ⟨t', H', nx', ι', by rw [e]; exact ⟨rfl, rfl, rfl, rfl⟩, s1, st1, tr1, k1, [], by rw [d1]; rfl, .nil⟩
  | seq x y =>
    change seqK rec base rd y (rec base rd x t H nx) = r at hr
    have hB1 : codeB P.globals.size n x = true ∧ codeB P.globals.size n y = true := by
      change bEl (codeB P.globals.size n x) (codeB P.globals.size n y) false = true at hB
      rw [bEl_eq] at hB
      split at hB
      · exact ⟨by assumption, hB⟩
      · cases hB
    have hw : wrs (.seq x y) = wrs x ++ wrs y := by show app (wrs x) (wrs y) = _; rw [app_eq]
    have hnf1 : ∀ k, rec base rd x t H nx ≠ .fail k := by intro k e; rw [e] at hr; exact hnf k hr.symm
    refine wpIn_seq (wpIn_mono (hrec base rd x t H nx n m ι w a rdc hnf1 hB1.1 ht hst hrd) ?_)
    rintro e a' w' ⟨t1, H1, nx1, ι1, hfit, hgo⟩
    have hgo := hgo.mono (l' := wrs (.seq x y)) fun i hi => by rw [hw]; exact List.mem_append_left _ hi
    generalize rec base rd x t H nx = r1 at hr hfit
    cases r1 with
    | fail k => exact hfit.elim
    | norm t2 h2 k2 =>
      obtain ⟨rfl, rfl, rfl, rfl⟩ := hfit
      change rec base rd y t1 H1 nx1 = r at hr
      have := hrec base rd y t1 H1 nx1 n m ι1 w' a' rdc (by intro k e; rw [e] at hr; exact hnf k hr.symm) hB1.2 hgo.tr hgo.st (hrd.mono hgo.stp.ext)
      rw [hr] at this
      exact wpIn_mono this fun e a2 w2 hp => Post.trans hgo (hp.mono fun i hi => by rw [hw]; exact List.mem_append_right _ hi)
    | exit id t2 h2 k2 =>
      obtain ⟨rfl, rfl, rfl, rfl⟩ := hfit
      have hr : R.exit id t1 H1 nx1 = r := hr
      subst hr
      exact ⟨_, _, _, ι1, ⟨rfl, rfl, rfl, rfl⟩, hgo⟩
    | ret t2 h2 k2 =>
      obtain ⟨rfl, rfl, rfl, rfl⟩ := hfit
      have hr : R.ret t1 H1 nx1 = r := hr
      subst hr
      exact ⟨_, _, _, ι1, ⟨rfl, rfl, rfl, rfl⟩, hgo⟩
  | cond x y z =>
    change onBool (opd x t) (.fail 113) (fun b' => bEl b' (rec base rd y t H nx) (rec base rd z t H nx)) = r at hr
    have hB1 : opndB P.globals.size n x = true ∧ codeB P.globals.size n y = true ∧ codeB P.globals.size n z = true := by
      change bEl (opndB P.globals.size n x) (bEl (codeB P.globals.size n y) (codeB P.globals.size n z) false) false = true at hB
      rw [bEl_eq, bEl_eq] at hB
      split at hB
      · split at hB
        · exact ⟨by assumption, by assumption, hB⟩
        · cases hB
      · cases hB
    have hw : wrs (.cond x y z) = wrs y ++ wrs z := by show app (wrs y) (wrs z) = _; rw [app_eq]
    have hx := opd_ok ht hst.glob hB1.1
    rw [onBool_eq] at hr
    split at hr
    case h_2 => exact absurd hr.symm (hnf _)
    rename_i b e
    rw [e] at hx
    refine wpIn_cond hx.bool_inv ?_
    rw [bEl_eq] at hr
    cases b with
    | true =>
      have hr : rec base rd y t H nx = r := hr
      have := hrec base rd y t H nx n m ι w a rdc (by intro k e; rw [e] at hr; exact hnf k hr.symm) hB1.2.1 ht hst hrd
      rw [hr] at this
      exact wpIn_mono this fun e a2 w2 hp => hp.mono fun i hi => by rw [hw]; exact List.mem_append_left _ hi
    | false =>
      have hr : rec base rd z t H nx = r := hr
      have := hrec base rd z t H nx n m ι w a rdc (by intro k e; rw [e] at hr; exact hnf k hr.symm) hB1.2.2 ht hst hrd
      rw [hr] at this
      exact wpIn_mono this fun e a2 w2 hp => hp.mono fun i hi => by rw [hw]; exact List.mem_append_right _ hi
  | block id b =>
    change blkK id (rec base rd b t H nx) = r at hr
    have hnf1 : ∀ k, rec base rd b t H nx ≠ .fail k := by intro k e; rw [e] at hr; exact hnf k hr.symm
    refine wpIn_block (wpIn_mono (hrec base rd b t H nx n m ι w a rdc hnf1 hB ht hst hrd) ?_)
    rintro e a' w' ⟨t1, H1, nx1, ι1, hfit, hgo⟩
    generalize rec base rd b t H nx = r1 at hr hfit
    cases r1 with
    | fail k => exact hfit.elim
    | norm t2 h2 k2 =>
      obtain ⟨rfl, rfl, rfl, rfl⟩ := hfit
      have hr : R.norm t1 H1 nx1 = r := hr
      subst hr
      exact ⟨_, _, _, ι1, ⟨rfl, rfl, rfl, rfl⟩, hgo⟩
    | exit id' t2 h2 k2 =>
      obtain ⟨rfl, rfl, rfl, rfl⟩ := hfit
      change bEl (Nat.beq id' id) (.norm t1 H1 nx1) (.exit id' t1 H1 nx1) = r at hr
      rw [bEl_eq] at hr
      split at hr
      · rename_i he
        have he : id' = id := Nat.eq_of_beq_eq_true he
        subst hr
        show Exit.inBlock id _ _ a' w'
        simp only [Exit.inBlock, he, if_true]
        exact ⟨_, _, _, ι1, ⟨rfl, rfl, rfl, rfl⟩, hgo⟩
      · rename_i he
        have he : id' ≠ id := fun e => he (by rw [e]; exact Nat.beq_refl id)
        subst hr
        show Exit.inBlock id _ _ a' w'
        simp only [Exit.inBlock, he, if_false]
        exact ⟨_, _, _, ι1, ⟨rfl, rfl, rfl, rfl⟩, hgo⟩
    | ret t2 h2 k2 =>
      obtain ⟨rfl, rfl, rfl, rfl⟩ := hfit
      have hr : R.ret t1 H1 nx1 = r := hr
      subst hr
      exact ⟨_, _, _, ι1, ⟨rfl, rfl, rfl, rfl⟩, hgo⟩
  | loop b => exact loopK_ok (c := b) hcs hrec hB ht hst hrd hr hnf
  | rangeFunc f ps asg body =>
    have hB1 : opndB P.globals.size n f = true ∧ allL (fun d => Nat.blt d n) ps.toList = true ∧ codeB P.globals.size n asg = true ∧ codeB P.globals.size n body = true := by
      change bEl (opndB P.globals.size n f) (bEl (allL (fun d => Nat.blt d n) ps.toList) (bEl (codeB P.globals.size n asg) (codeB P.globals.size n body) false) false) false = true at hB
      rw [bEl_eq, bEl_eq, bEl_eq] at hB
      split at hB
      · split at hB
        · split at hB
          · exact ⟨by assumption, by assumption, by assumption, hB⟩
          · cases hB
        · cases hB
      · cases hB
    exact rfH_ok hN hrec hst ht hrd hB1.1 hB1.2.1 hB1.2.2.1 hB1.2.2.2 hr hnf
theorem ev_ok (hN : NamesOk P) (hX : OrcOk P.globals.size P X) (hmix : P.follows .mixedOrders = true) : ∀ f : Nat, CdOk P.globals.size P (ev P X f)
  | 0 => fun _ _ _ _ _ _ _ _ _ _ _ _ h => absurd rfl (h 116)
  | f + 1 => codeD_ok hN hX hmix (ev_ok hN hX hmix f)
/-- a call that the abstract machine has made -/
theorem evCall_ok (hN : NamesOk P) (hX : OrcOk P.globals.size P X) (hmix : P.follows .mixedOrders = true) {f base : Nat} {g : FuncId} {args : List AV} {args' : Array Value} {ι : Inj} {H : Hp} {nx : Nat} {w : World} (ha : VRs ι args args'.toList) (hst : St P.globals.size base ι H nx w.heap)
    {v : AV} {H' : Hp} {nx' : Nat} (h : evCall P X f base g args H nx = .val v H' nx') : CallsIn Fence.wide 0 P g args' w (Back P.globals.size base ι H nx w v H' nx') := by
  rw [evCall, oEl_eq] at h
  split at h
  · cases h
  rename_i fn hfn
  exact (callF_ok (rdc := none) (m := 0) (ev_ok hN hX hmix f) hfn ha hst h).2
end Go.Abs
namespace Go.Abs
variable {P : Program} {gs : Nat}
/-- one oracle is right -/
def OcOk (gs : Nat) (P : Program) (g : FuncId) (oc : Oc) : Prop := ∀ (base : Nat) (ι : Inj) (H : Hp) (nx : Nat) (w : World) (args : List AV) (args' : Array Value) (v : AV) (H' : Hp) (nx' : Nat),
  VRs ι args args'.toList → St gs base ι H nx w.heap → oc base args H nx = .val v H' nx' →
    (∃ x w' ι', (callFunc g args').run P w = .ok (.value x) w' ∧ VR ι' v x ∧ Stp base ι H nx w ι' H' nx' w' ∧ St gs base ι' H' nx' w'.heap) ∨
    ((callFunc g args').run P w = .ok (.enter g args') w ∧ ∀ m, CallsIn (FW none) m P g args' w (Back gs base ι H nx w v H' nx'))
/-- a function without a body, that the model knows -/
structure Known (P : Program) (g : FuncId) (e : Array Value → Sem Value) : Prop where
  ex : ∃ fn, P.funcs[g]? = some fn ∧ (fn.name == "runtime.NumGoroutine") = false ∧ fn.body.isNone = true ∧ Extern.findNext fn = none ∧ Extern.find fn = some e
theorem Known.run {g : FuncId} {e : Array Value → Sem Value} (h : Known P g e) {args : Array Value} {w w' : World} {x : Value} (hr : (e args).run P w = .ok x w') : (callFunc g args).run P w = .ok (.value x) w' := by
  obtain ⟨fn, h1, h2, h3, h4, h5⟩ := h.ex
  rw [run_callFunc_extern h1 h2 h3 h4 h5, hr]; rfl
theorem VRs.one {ι : Inj} {x : AV} {a : Array Value} (h : VRs ι [x] a.toList) : ∃ y, a = #[y] ∧ VR ι x y := by
  cases a with
  | mk l =>
    cases h with
    | cons _ y _ l' hv ht => cases ht; exact ⟨y, rfl, hv⟩
theorem VRs.two {ι : Inj} {x y : AV} {a : Array Value} (h : VRs ι [x, y] a.toList) : ∃ p q, a = #[p, q] ∧ VR ι x p ∧ VR ι y q := by
  cases a with
  | mk l =>
    cases h with
    | cons _ p _ l' hv ht =>
      cases ht with
      | cons _ q _ l2 hv' ht' => cases ht'; exact ⟨p, q, rfl, hv, hv'⟩
theorem oneK_ok {l : List AV} {k : AV → O} {v : AV} {H : Hp} {nx : Nat} {w : Nat} (h : oneK l (.fail w) k = .val v H nx) : ∃ x, l = [x] ∧ k x = .val v H nx := by
  rw [oneK, lEl_eq] at h
  split at h
  · cases h
  · rw [lEl_eq] at h
    split at h
    · exact ⟨_, rfl, h⟩
    · cases h
theorem twoK_ok {l : List AV} {k : AV → AV → O} {v : AV} {H : Hp} {nx : Nat} {w : Nat} (h : twoK l (.fail w) k = .val v H nx) : ∃ x y, l = [x, y] ∧ k x y = .val v H nx := by
  rw [twoK, lEl_eq] at h
  split at h
  · cases h
  · rw [lEl_eq] at h
    split at h
    · cases h
    · rw [lEl_eq] at h
      split at h
      · exact ⟨_, _, rfl, h⟩
      · cases h
theorem oc_same {g : FuncId} (h : Known P g Extern.AbiNoEscape.same) : OcOk gs P g ocSame := by
  intro base ι H nx w args args' v H' nx' ha hst hv
  obtain ⟨x, rfl, hv⟩ := oneK_ok hv
  cases hv
  obtain ⟨y, rfl, hy⟩ := ha.one
  exact .inl ⟨y, w, ι, h.run rfl, hy, .refl .., hst⟩
theorem byteC_ok {y : AV} {k : Nat → O} {v : AV} {H : Hp} {nx : Nat} (h : byteC y k = .val v H nx) : ∃ c : UInt8, y = .int .u8 (c.toNat : Int) ∧ k c.toNat = .val v H nx := by
  rw [byteC, onInt_eq] at h
  split at h
  · rename_i j c
    rw [bEl_eq] at h
    split at h
    · rename_i hj
      have := keq_eq _ _ hj; subst this
      rw [iEl_eq] at h
      split at h
      · rename_i n
        rw [bEl_eq] at h
        split at h
        · rename_i hn
          have hn : n < 256 := by simpa using hn
          refine ⟨UInt8.ofNat n, ?_, ?_⟩
          · have : (UInt8.ofNat n).toNat = n := by simp; omega
            rw [this]; rfl
          · have : (UInt8.ofNat n).toNat = n := by simp; omega
            rw [this]; exact h
        · cases h
      · cases h
    · cases h
  · cases h
theorem find_bytes (bs : List UInt8) (c : UInt8) : ∀ i, idxByte c.toNat (bs.map UInt8.toNat) i = (match (List.range bs.length).find? (fun j => bs[j]! == c) with | some j => ((i + j : Nat) : Int) | none => -1) := by
  induction bs with
  | nil => intro i; rfl
  | cons b bs ih =>
    intro i
    change bEl (Nat.beq b.toNat c.toNat) (.ofNat i) (idxByte c.toNat (bs.map UInt8.toNat) (Nat.succ i)) = _
    rw [bEl_eq, List.length_cons, List.range_succ_eq_map, List.find?_cons]
    by_cases hb : b = c
    · subst hb
      rw [if_pos (Nat.beq_refl _)]
      simp
    · have h1 : Nat.beq b.toNat c.toNat = false := by
        rw [← Bool.not_eq_true, Nat.beq_eq]
        exact fun e => hb (UInt8.toNat_inj.1 e)
      have h2 : ((b :: bs)[0]! == c) = false := by simpa using hb
      rw [h1, h2, ih]
      simp only [Bool.false_eq_true, if_false, List.find?_map]
      have e : ((fun j => (b :: bs)[j]! == c) ∘ Nat.succ) = fun j => bs[j]! == c := by
        funext j; simp
      rw [e]
      cases (List.range bs.length).find? fun j => bs[j]! == c with
      | none => rfl
      | some j => simp only [Option.map_some]; congr 1; omega
theorem oc_indexByte {g : FuncId} (h : Known P g Extern.BytealgIndexByte.indexByte) : OcOk gs P g ocIndexByte := by
  intro base ι H nx w args args' v H' nx' ha hst hv
  replace hv := twoK_ok hv
  obtain ⟨x, y, hxy, hv⟩ := hv
  subst hxy
  obtain ⟨p, q, rfl, hp, hq⟩ := ha.two
  rw [onStr_eq] at hv
  split at hv
  case h_2 => cases hv
  replace hv := byteC_ok hv
  obtain ⟨c, hc, hv⟩ := hv
  subst hc
  cases hv
  obtain ⟨s, rfl, rfl⟩ := hp.str_inv
  have := hq.int_inv; subst this
  refine .inl ⟨_, w, ι, h.run (run_indexByte_string s _ w), ?_, .refl .., hst⟩
  have e : firstIdx s ((c.toNat : Int).toNat.toUInt8) = idxByte c.toNat (bytesOf s) 0 := by
    unfold bytesOf
    rw [find_bytes]
    unfold firstIdx
    have e1 : ((c.toNat : Int).toNat.toUInt8) = c := by simp
    rw [e1]
    have e2 : s.size = s.data.toList.length := Lib.size_eq s
    have e3 : (fun i : Nat => s[i]! == c) = fun j : Nat => s.data.toList[j]! == c := by
      funext j
      congr 1
      by_cases hj : j < s.size
      · rw [getElem!_pos s j hj, getElem!_pos s.data.toList j (by rw [← e2]; exact hj)]
        rfl
      · rw [getElem!_neg s j hj, getElem!_neg s.data.toList j (by rw [← e2]; exact hj)]
    rw [e3, e2]
    simp only [Nat.zero_add]
    generalize List.find? (fun j => s.data.toList[j]! == c) (List.range s.data.toList.length) = q
    cases q <;> rfl
  rw [e]
  exact .int _ _
theorem cnt_bytes (c : UInt8) : ∀ bs : List UInt8, cntByte c.toNat (bs.map UInt8.toNat) = bs.count c
  | [] => rfl
  | b :: bs => by
    change bEl (Nat.beq b.toNat c.toNat) (Nat.succ (cntByte c.toNat (bs.map UInt8.toNat))) (cntByte c.toNat (bs.map UInt8.toNat)) = _
    rw [bEl_eq, cnt_bytes c bs, List.count_cons]
    by_cases hb : b = c
    · subst hb
      rw [if_pos (Nat.beq_refl _), if_pos (by simp)]
    · have h1 : Nat.beq b.toNat c.toNat = false := by
        rw [← Bool.not_eq_true, Nat.beq_eq]
        exact fun e => hb (UInt8.toNat_inj.1 e)
      rw [h1, if_neg (by simpa using hb)]; simp [hb]
theorem oc_count {g : FuncId} (h : Known P g Extern.BytealgCount.count) : OcOk gs P g ocCount := by
  intro base ι H nx w args args' v H' nx' ha hst hv
  replace hv := twoK_ok hv
  obtain ⟨x, y, hxy, hv⟩ := hv
  subst hxy
  obtain ⟨p, q, rfl, hp, hq⟩ := ha.two
  rw [onStr_eq] at hv
  split at hv
  case h_2 => cases hv
  replace hv := byteC_ok hv
  obtain ⟨c, hc, hv⟩ := hv
  subst hc
  cases hv
  obtain ⟨s, rfl, rfl⟩ := hp.str_inv
  have := hq.int_inv; subst this
  refine .inl ⟨_, w, ι, h.run (Lib.run_countString s _ w), ?_, .refl .., hst⟩
  have e1 : ((c.toNat : Int).toNat.toUInt8) = c := by simp
  rw [e1]
  unfold bytesOf
  rw [cnt_bytes]
  exact .int _ _
/-- a row of bytes that are not known -/
noncomputable def ocMakeB (e : TypeId) : Oc := fun _ l h nx => oneK l (.fail 86) fun x => onInt x (.fail 86) fun k n => bEl (keq k .i64) (iEl n (fun n => bEl (Nat.ble n 4096) (new (.cells (all4 .undef) n e false) (.slice nx 0 n (.un 1)) h nx) (.fail 86)) fun _ => .fail 86) (.fail 86)
theorem digits_spec : ∀ (n t : Nat) (acc : Array Value), (Extern.BytealgMakeNoZero.digits n t acc).size = acc.size + n ∧ ((∀ x ∈ acc, cellV x = true) → ∀ x ∈ Extern.BytealgMakeNoZero.digits n t acc, cellV x = true)
  | 0, t, acc => ⟨rfl, fun h => h⟩
  | n + 1, t, acc => by
    obtain ⟨h1, h2⟩ := digits_spec n (t / 256) (acc.push (.int .u8 (Int.ofNat (t % 256))))
    refine ⟨?_, fun h => ?_⟩
    · show (Extern.BytealgMakeNoZero.digits n (t / 256) (acc.push (.int .u8 (Int.ofNat (t % 256))))).size = _
      rw [h1, Array.size_push]; omega
    · show ∀ x ∈ Extern.BytealgMakeNoZero.digits n (t / 256) (acc.push (.int .u8 (Int.ofNat (t % 256)))), _
      refine h2 fun x hx => ?_
      rcases Array.mem_push.1 hx with hx | rfl
      · exact h x hx
      · rfl
theorem oc_make {g : FuncId} {ps : Array TypeId} {t e : TypeId} (h : Known P g (Extern.BytealgMakeNoZero.makeNoZero ps #[t])) (hu : P.underlying t = some (.slice e)) : OcOk gs P g (ocMakeB e) := by
  intro base ι H nx w args args' v H' nx' ha hst hv
  replace hv := oneK_ok hv
  obtain ⟨x, hx, hv⟩ := hv
  subst hx
  obtain ⟨y, rfl, hy⟩ := ha.one
  rw [onInt_eq] at hv
  split at hv
  case h_2 => cases hv
  rename_i k n
  have := hy.int_inv; subst this
  rw [bEl_eq] at hv
  split at hv
  case isFalse => cases hv
  rename_i hk
  have := keq_eq _ _ hk; subst this
  rw [iEl_eq] at hv
  split at hv
  case h_2 => cases hv
  rename_i n
  rw [bEl_eq] at hv
  split at hv
  case isFalse => cases hv
  rename_i hn
  have hn : n ≤ 4096 := Nat.le_of_ble_eq_true hn
  obtain ⟨cap, hcap, hch⟩ := choose_cap (P := P) n 0 e w
  have hch2 : ∃ bytes, (choose (.extern "internal/bytealg.MakeNoZero.bytes" 0)).run P { w with drawn := w.drawn + 1 } = .ok bytes { w with drawn := w.drawn + 1 + 1 } := by
    refine ⟨w.tape (w.drawn + 1) (.extern "internal/bytealg.MakeNoZero.bytes" 0), ?_⟩
    simp [choose, Sem.run, Question.forced, Question.cut]
    exact ⟨rfl, rfl, rfl⟩
  obtain ⟨bytes, hch2⟩ := hch2
  obtain ⟨d1, d2⟩ := digits_spec cap bytes #[]
  have d1 : (Extern.BytealgMakeNoZero.digits cap bytes #[]).size = cap := by simpa using d1
  obtain ⟨rfl, s1, s2⟩ := new_ok (w := w) (w1 := ({ w with drawn := w.drawn + 1 + 1 } : World).alloc (.cells (Extern.BytealgMakeNoZero.digits cap bytes #[]) e)) hst hv (m := ⟨w.heap.size, 0, cap⟩) (o := .cells (Extern.BytealgMakeNoZero.digits cap bytes #[]) e) rfl
    ⟨_, (0, 0), rfl, d1, fun hh => (by cases hh), by simpa using hcap, hn, fun i _ hi => by simp at hi, fun p _ hp => by
      refine ⟨by rw [get4_all]; rfl, ?_⟩
      have hp' : p - 0 < (Extern.BytealgMakeNoZero.digits cap bytes #[]).size := by rw [d1]; omega
      refine ⟨(Extern.BytealgMakeNoZero.digits cap bytes #[])[p - 0], by rw [Array.getElem?_eq_getElem hp'], ?_⟩
      rw [get4_all]
      exact .undef _ (d2 (by simp) _ (Array.getElem_mem hp'))⟩ rfl rfl rfl rfl
  refine .inl ⟨.slice (some ⟨w.heap.size, 0, none⟩) n cap, _, _, h.run ?_, ?_, s1, s2⟩
  · have hneg : ¬ ((n : Int) < 0 ∨ (n : Int) > 2 ^ 48) := by omega
    have hdef : Extern.BytealgMakeNoZero.makeNoZero ps #[t] #[.int .i64 (n : Nat)] =
      (do
        let .slice elem ← underlying t | stuck "bytealg.MakeNoZero: slice type expected"
        if (n : Int) < 0 || (n : Int) > 2 ^ 48 then runtimePanic (.error "makeslice: len out of range")
        let cap ← choose (.appendCap (n : Int).toNat 0 elem)
        askRoom cap
        let bytes ← choose (.extern "internal/bytealg.MakeNoZero.bytes" 0)
        let a ← Go.newRow elem (Extern.BytealgMakeNoZero.digits cap bytes #[])
        pure (.slice (some a) (n : Int).toNat cap)) := rfl
    show (Extern.BytealgMakeNoZero.makeNoZero ps #[t] #[.int .i64 (n : Nat)]).run P w = _
    rw [hdef]
    have h1 : ¬ (n : Int) < 0 := by omega
    have h2 : ¬ (281474976710656 : Int) < (n : Int) := by omega
    have e2 : ((n : Nat) : Int).toNat = n := rfl
    simp only [Sem.run_bind, run_underlying hu, Result.andThen_ok, e2]
    rw [if_neg (by simp [h1, h2])]
    simp only [hch, Result.andThen_ok, Sem.run_bind, run_askRoom, hch2, run_newRow, Sem.run_pure]
  · refine VR.slice _ _ _ _ ⟨w.heap.size, 0, cap⟩ _ _ (Inj.put_self _ _ _) ?_ hcap fun _ => ⟨rfl, Nat.zero_le _⟩
    intro _
    show (0 - 0) + cap * 1 ≤ cap
    omega
/-- the place of a string in another one, in a program whose own variable (an int) may have any value -/
noncomputable def ocIndexM (g0 : Nat) : Oc := fun _ l h nx => twoK l (.fail 89) fun x y => onStr x (.fail 89) fun s => onStr y (.fail 89) fun p => lEl p (.fail 89) fun _ _ => bEl (Nat.ble (len s) 4294967280)
  (onCellsOb (row h g0) (.fail 89) fun t n _ _ => bEl (Nat.blt 0 n) (onInt (get4 t (p4 0)) (.fail 89) fun k _ => bEl (keq k .i64) (.val (.int .i64 (idxStr p s 0)) h nx) (.fail 89)) (.fail 89)) (.fail 89)
theorem isPrefix_take (p l : List UInt8) : leq ((l.map UInt8.toNat).take (p.map UInt8.toNat).length) (p.map UInt8.toNat) = p.isPrefixOf l := by
  rw [leq_eq, Bool.eq_iff_iff]
  simp only [beq_iff_eq, List.isPrefixOf_iff_prefix, List.length_map]
  rw [← List.map_take, List.map_inj_right (fun a b h => UInt8.toNat_inj.1 h)]
  constructor
  · intro h; exact ⟨l.drop p.length, by have e := List.take_append_drop p.length l; rw [h] at e; exact e⟩
  · rintro ⟨t, rfl⟩; simp
theorem idx_str (p : List UInt8) (hp : p ≠ []) : ∀ (l : List UInt8) (i : Nat), idxStr (p.map UInt8.toNat) (l.map UInt8.toNat) i = if Lib.index l p = -1 then -1 else (i : Int) + Lib.index l p
  | [], i => by
    have : Lib.index [] p = -1 := by
      unfold Lib.index
      cases p with
      | nil => exact absurd rfl hp
      | cons => rfl
    rw [this]; rfl
  | b :: l, i => by
    change bEl (leq (tke (len (p.map UInt8.toNat)) ((b :: l).map UInt8.toNat)) (p.map UInt8.toNat)) (.ofNat i) (idxStr (p.map UInt8.toNat) (l.map UInt8.toNat) (Nat.succ i)) = _
    rw [bEl_eq, tke_eq, len_eq, isPrefix_take, idx_str p hp l (i + 1)]
    have e : Lib.index (b :: l) p = if p.isPrefixOf (b :: l) then 0 else if Lib.index l p == -1 then -1 else Lib.index l p + 1 := rfl
    rw [e]
    have hge := Lib.index_ge l p
    by_cases h1 : p.isPrefixOf (b :: l) = true
    · rw [if_pos h1, if_pos h1]
      simp
    · rw [if_neg h1, if_neg h1]
      by_cases h2 : Lib.index l p = -1
      · rw [if_pos h2]
        simp [h2]
      · rw [if_neg h2]
        have h3 : (Lib.index l p == -1) = false := by simpa using h2
        rw [h3]
        simp only [Bool.false_eq_true, if_false]
        rw [if_neg (by omega)]
        push_cast
        omega
theorem oc_index {g : FuncId} {fn : Func} {g0 : Nat} (hg0 : g0 < gs) (hN : NamesOk P) (hf : P.funcs[g]? = some fn) (hb : fn.body.isNone = false)
    (hI : ∀ (s sub : ByteArray) (m : Int) (w : World), s.size < 4294967281 → w.cell? ⟨g0, 0, none⟩ = some (.int .i64 m) → Calls P g #[.string s, .string sub] w fun e w' => e = .returned (.int .i64 (Lib.index s.data.toList sub.data.toList)) ∧ w' = w) :
    OcOk gs P g (ocIndexM g0) := by
  intro base ι H nx w args args' v H' nx' ha hst hv
  replace hv := twoK_ok hv
  obtain ⟨x, y, hxy, hv⟩ := hv
  subst hxy
  obtain ⟨p, q, rfl, hp, hq⟩ := ha.two
  rw [onStr_eq] at hv
  split at hv
  case h_2 => cases hv
  rw [onStr_eq] at hv
  split at hv
  case h_2 => cases hv
  obtain ⟨s, rfl, rfl⟩ := hp.str_inv
  obtain ⟨sub, rfl, rfl⟩ := hq.str_inv
  rw [lEl_eq] at hv
  split at hv
  · cases hv
  rename_i b1 l1 hsub
  rw [bEl_eq] at hv
  split at hv
  case isFalse => cases hv
  rename_i hlen
  rw [onCellsOb_eq] at hv
  split at hv
  case h_2 => cases hv
  rename_i t n el ex hr
  rw [bEl_eq] at hv
  split at hv
  case isFalse => cases hv
  rename_i hn
  have hn : 0 < n := by simpa using hn
  rw [onInt_eq] at hv
  split at hv
  case h_2 => cases hv
  rename_i k mv e1
  rw [bEl_eq] at hv
  split at hv
  case isFalse => cases hv
  rename_i hk
  have := keq_eq _ _ hk; subst this
  obtain ⟨m0, hm0, hc0, hs0⟩ := hst.glob g0 hg0
  obtain ⟨cs, fz, hh, hc⟩ := hst.cells hm0 hr
  obtain ⟨_, y, hy, hvy⟩ := hc.cell 0 (by omega) hn
  rw [e1] at hvy
  have := hvy.int_inv; subst this
  have hcell : w.cell? ⟨g0, 0, none⟩ = some (.int .i64 mv) := by
    rw [← hc0, cell_at hh]; simpa using hy
  have hsz : s.size < 4294967281 := by
    rw [len_eq, bytes_length] at hlen
    have := Nat.le_of_ble_eq_true hlen; omega
  have hne : sub.data.toList ≠ [] := by
    intro e
    unfold bytesOf at hsub
    rw [e] at hsub; cases hsub
  have e2 : idxStr (bytesOf sub) (bytesOf s) 0 = Lib.index s.data.toList sub.data.toList := by
    unfold bytesOf
    rw [idx_str _ hne]
    split
    · rename_i h; exact h.symm
    · simp
  rw [e2] at hv
  cases hv
  refine .inr ⟨run_callFunc hN hf hb _ w, fun m => (callsIn_wide.2 ((hI s sub mv w hsz hcell).mono ?_))⟩
  rintro e w' ⟨rfl, rfl⟩
  exact ⟨_, ι, rfl, .int _ _, .refl .., hst⟩
end Go.Abs
namespace Go.Abs
/-! ### Calls whose ends are known -/
/-- what is told of a cell is so of another one -/
noncomputable def leC (x y : AV) : Bool :=
  x.el false (y.el false true (fun _ => true) (fun _ _ => true) (fun _ => true) (fun _ _ => true) true (fun _ _ _ _ => true) true (fun _ => true) true (fun _ _ _ => true) true (fun _ _ => true) true (fun _ => false) (fun _ => false))
    (fun _ => sameC x y) (fun _ _ => sameC x y) (fun _ => sameC x y) (fun _ _ => sameC x y) (sameC x y) (fun _ _ _ _ => sameC x y) (sameC x y) (fun _ => sameC x y) (sameC x y) (fun _ _ _ => false) (sameC x y)
    (fun t v => onIface y false fun u z => band (Nat.beq t u) (sameC v z)) (sameC x y) (fun _ => false) (fun _ => false)
noncomputable def leV (x y : AV) : Bool := onAny x (onTuple x (onAgg x (leC x y) fun a => onAgg y false fun b => sameL leC a b)
  fun a => onTuple y false fun b => sameL (fun x y => onAgg x (leC x y) fun a => onAgg y false fun b => sameL leC a b) a b) true
noncomputable def cellsLe (t t' : Cl) (n : Nat) : Bool := Nat.rec (motive := fun _ => Bool) true (fun k ih => bEl (leC (get4 t (p4 k)) (get4 t' (p4 k))) ih false) n
noncomputable def leOb (x y : Ob) : Bool := onCellsOb x false fun t n e ex => onCellsOb y false fun t' n' e' ex' => band (Nat.beq n n') (band (Nat.beq e e') (band (beqB ex ex') (cellsLe t t' n)))
abbrev Rows := List (Nat × Ob)
noncomputable def rowsLe (l : Rows) (h : Hp) : Bool := allL (fun p => leOb p.2 (row h p.1)) l
noncomputable def putRows (l : Rows) : Hp → Hp := List.rec (motive := fun _ => Hp → Hp) (fun h => h) (fun p _ ih h => fN8 (put6 h (p6 p.1) p.2) ih) l
/-- a call: the next row, what it is called with, the rows that it looks at, what it hands back, the new rows that are kept, the next row behind it -/
structure Ent where
  n0 : Nat
  args : List AV
  rows : Rows
  v : AV
  news : Rows
  n1 : Nat
/-- an int (a variable of the program) whose value is not known -/
noncomputable def intRow (e0 : TypeId) (m : Int) : Ob := .cells (put4 (all4 .undef) (p4 0) (.int .i64 m)) 1 e0 true
noncomputable def isIntRow (e0 : TypeId) (o : Ob) : Bool := onCellsOb o false fun t n e ex => band (Nat.beq n 1) (band (Nat.beq e e0) (band ex (onInt (get4 t (p4 0)) false fun k _ => keq k .i64)))
noncomputable def hpOf (g0 : Nat) (e0 : TypeId) (m : Int) (l : Rows) : Hp := putRows l (put6 (all6 .dead) (p6 g0) (intRow e0 m))
noncomputable def entB (P : Program) (X : Orc) (f g0 : Nat) (e0 : TypeId) (g : FuncId) (e : Ent) (m : Int) : Bool :=
  (evCall P X f e.n0 g e.args (hpOf g0 e0 m e.rows) e.n0).el (fun _ => false) fun v h nx => band (leV e.v v) (band (Nat.ble nx e.n1) (rowsLe e.news h))
noncomputable def entOk (g0 : Nat) (e : Ent) : Bool := band (Nat.ble e.n1 262144) (band (allL (fun p : Nat × Ob => band (Nat.ble e.n0 p.1) (Nat.blt p.1 e.n1)) e.news) (allL (fun p : Nat × Ob => band (Nat.blt p.1 e.n0) (bnot (Nat.beq p.1 g0))) e.rows))
noncomputable def ocT (g0 : Nat) (e0 : TypeId) (l : List Ent) : Oc := fun _ args h nx =>
  List.rec (motive := fun _ => O) (.fail 200) (fun e _ ih => bEl (Nat.beq nx e.n0) (bEl (sameL leV e.args args) (bEl (isIntRow e0 (row h g0)) (bEl (rowsLe e.rows h) (bEl (entOk g0 e) (.val e.v (putRows e.news h) e.n1) (.fail 204)) (.fail 203)) (.fail 202)) (.fail 201)) ih) l
/-! what these say -/
variable {ι : Inj}
theorem leC_ok {x y : AV} (h : leC x y = true) {v : Value} (hv : VR ι y v) : VR ι x v := by
  cases x
  case any => cases h
  case undef =>
    refine .undef v ?_
    cases y <;> first | (cases h; done) | exact hv.cellV rfl
  case iface t a =>
    change onIface y false (fun u z => band (Nat.beq t u) (sameC a z)) = true at h
    rw [onIface_eq] at h
    split at h
    · rw [band_eq, Bool.and_eq_true] at h
      have h1 := Nat.eq_of_beq_eq_true h.1
      have h2 := sameC_ok h.2
      subst h1 h2
      exact hv
    · cases h
  case func => cases h
  case agg => cases h
  case tuple => cases h
  case bool b => have e := sameC_ok (x := (.bool b)) (y := y) h; subst e; exact hv
  case int k n => have e := sameC_ok (x := (.int k n)) (y := y) h; subst e; exact hv
  case str s => have e := sameC_ok (x := (.str s)) (y := y) h; subst e; exact hv
  case ptr b o => have e := sameC_ok (x := (.ptr b o)) (y := y) h; subst e; exact hv
  case nilPtr => have e := sameC_ok (x := .nilPtr) (y := y) h; subst e; exact hv
  case slice b o l c => have e := sameC_ok (x := (.slice b o l c)) (y := y) h; subst e; exact hv
  case nilSlice => have e := sameC_ok (x := .nilSlice) (y := y) h; subst e; exact hv
  case map b => have e := sameC_ok (x := (.map b)) (y := y) h; subst e; exact hv
  case nilMap => have e := sameC_ok (x := .nilMap) (y := y) h; subst e; exact hv
  case nilFunc => have e := sameC_ok (x := .nilFunc) (y := y) h; subst e; exact hv
  case nilIface => have e := sameC_ok (x := .nilIface) (y := y) h; subst e; exact hv
theorem leC_cell {x y : AV} (h : leC x y = true) : x.cell = true ∧ y.cell = true := by
  cases x
  case any => cases h
  case undef => cases y <;> first | (cases h; done) | exact ⟨rfl, rfl⟩
  case iface t a =>
    change onIface y false (fun u z => band (Nat.beq t u) (sameC a z)) = true at h
    rw [onIface_eq] at h
    split at h
    · exact ⟨rfl, rfl⟩
    · cases h
  case func => cases h
  case agg => cases h
  case tuple => cases h
  case bool b => have e := sameC_ok (x := (.bool b)) (y := y) h; subst e; exact ⟨rfl, rfl⟩
  case int k n => have e := sameC_ok (x := (.int k n)) (y := y) h; subst e; exact ⟨rfl, rfl⟩
  case str s => have e := sameC_ok (x := (.str s)) (y := y) h; subst e; exact ⟨rfl, rfl⟩
  case ptr b o => have e := sameC_ok (x := (.ptr b o)) (y := y) h; subst e; exact ⟨rfl, rfl⟩
  case nilPtr => have e := sameC_ok (x := .nilPtr) (y := y) h; subst e; exact ⟨rfl, rfl⟩
  case slice b o l c => have e := sameC_ok (x := (.slice b o l c)) (y := y) h; subst e; exact ⟨rfl, rfl⟩
  case nilSlice => have e := sameC_ok (x := .nilSlice) (y := y) h; subst e; exact ⟨rfl, rfl⟩
  case map b => have e := sameC_ok (x := (.map b)) (y := y) h; subst e; exact ⟨rfl, rfl⟩
  case nilMap => have e := sameC_ok (x := .nilMap) (y := y) h; subst e; exact ⟨rfl, rfl⟩
  case nilFunc => have e := sameC_ok (x := .nilFunc) (y := y) h; subst e; exact ⟨rfl, rfl⟩
  case nilIface => have e := sameC_ok (x := .nilIface) (y := y) h; subst e; exact ⟨rfl, rfl⟩
theorem sameL_le {eq : AV → AV → Bool} (heq : ∀ x y v, eq x y = true → VR ι y v → VR ι x v) : ∀ {a b : List AV} {l : List Value}, sameL eq a b = true → VRs ι b l → VRs ι a l
  | [], b, l, h, hv => by
    change lEl b true (fun _ _ => false) = true at h
    rw [lEl_eq] at h
    split at h
    · exact hv
    · cases h
  | x :: a, b, l, h, hv => by
    change lEl b false (fun y l => bEl (eq x y) (sameL eq a l) false) = true at h
    rw [lEl_eq] at h
    split at h
    · cases h
    · rw [bEl_eq] at h
      split at h
      · rename_i hx
        cases hv with
        | cons _ p _ l' h1 h2 => exact .cons _ _ _ _ (heq _ _ _ hx h1) (sameL_le heq h h2)
      · cases h
theorem sameL_cells : ∀ {a b : List AV}, sameL leC a b = true → ∀ x ∈ a, x.cell = true
  | [], b, h, x, hx => by cases hx
  | z :: a, b, h, x, hx => by
    change lEl b false (fun y l => bEl (leC z y) (sameL leC a l) false) = true at h
    rw [lEl_eq] at h
    split at h
    · cases h
    · rw [bEl_eq] at h
      split at h
      · rename_i hz
        rcases List.mem_cons.1 hx with rfl | hx
        · exact (leC_cell hz).1
        · exact sameL_cells h x hx
      · cases h
theorem leA_ok {x y : AV} {v : Value} (h : (onAgg x (leC x y) fun a => onAgg y false fun b => sameL leC a b) = true) (hv : VR ι y v) : VR ι x v := by
  rw [onAgg_eq] at h
  split at h
  · rw [onAgg_eq] at h
    split at h
    · obtain ⟨a, rfl, h1, _⟩ := hv.agg_inv
      exact .agg _ _ (sameL_le (fun _ _ _ h hv => leC_ok h hv) h h1) (sameL_cells h)
    · cases h
  · exact leC_ok h hv
theorem leV_ok {x y : AV} (h : leV x y = true) {v : Value} (hv : VR ι y v) : VR ι x v := by
  rw [leV, onAny_eq] at h
  split at h
  · exact .any _
  · rw [onTuple_eq] at h
    split at h
    · rw [onTuple_eq] at h
      split at h
      · obtain ⟨a, rfl, h1⟩ := hv.tuple_inv
        exact .tuple _ _ (sameL_le (fun _ _ _ h hv => leA_ok h hv) h h1)
      · cases h
    · exact leA_ok h hv
theorem cellsLe_ok {t t' : Cl} : ∀ {n : Nat}, cellsLe t t' n = true → ∀ k, k < n → leC (get4 t (p4 k)) (get4 t' (p4 k)) = true
  | 0, _, k, hk => by omega
  | n + 1, h, k, hk => by
    change bEl (leC (get4 t (p4 n)) (get4 t' (p4 n))) (cellsLe t t' n) false = true at h
    rw [bEl_eq] at h
    split at h
    · rename_i hn
      rcases Nat.lt_or_ge k n with h1 | h1
      · exact cellsLe_ok h k h1
      · have : k = n := by omega
        rw [this]; exact hn
    · cases h
theorem leOb_ok {gs : Nat} {m : Im} {x y : Ob} (h : leOb x y = true) {o : Option Obj} (ho : ObR gs ι m y o) : ObR gs ι m x o := by
  rw [leOb, onCellsOb_eq] at h
  split at h
  · rw [onCellsOb_eq] at h
    split at h
    · simp only [band_eq, beqB_eq, Bool.and_eq_true, beq_iff_eq] at h
      obtain ⟨h1, h2, h3, h4⟩ := h
      have h1 := Nat.eq_of_beq_eq_true h1
      have h2 := Nat.eq_of_beq_eq_true h2
      subst h1 h2 h3
      obtain ⟨cs, fz, ho, hc⟩ := ho
      exact ⟨cs, fz, ho, hc.size, hc.exact', hc.most, hc.lim, hc.free, fun p hp hp' => by
        obtain ⟨_, v, hv, hr⟩ := hc.cell p hp hp'
        have := cellsLe_ok h4 p hp'
        exact ⟨(leC_cell this).1, v, hv, leC_ok this hr⟩⟩
    · cases h
  · cases h
theorem leOb_live {x y : Ob} (h : leOb x y = true) : x.live = true ∧ y.live = true := by
  rw [leOb, onCellsOb_eq] at h
  split at h
  · rw [onCellsOb_eq] at h
    split at h
    · exact ⟨rfl, rfl⟩
    · cases h
  · cases h
theorem leOb_one {x y : Ob} (h : leOb x y = true) (k i j : Nat) : x ≠ .one k i j := by
  rintro rfl; cases h
theorem isIntRow_ok {gs : Nat} {m : Im} {e0 : TypeId} {y : Ob} (h : isIntRow e0 y = true) {o : Option Obj} (ho : ObR gs ι m y o) : y.live = true ∧ ∃ k : Int, ObR gs ι m (intRow e0 k) o := by
  rw [isIntRow, onCellsOb_eq] at h
  split at h
  case h_2 => cases h
  simp only [band_eq, Bool.and_eq_true] at h
  obtain ⟨h1, h2, h3, h4⟩ := h
  have h1 := Nat.eq_of_beq_eq_true h1
  have h2 := Nat.eq_of_beq_eq_true h2
  subst h1 h2 h3
  rw [onInt_eq] at h4
  split at h4
  case h_2 => cases h4
  rename_i kd k e1
  have := keq_eq _ _ h4; subst this
  obtain ⟨cs, fz, ho, hc⟩ := ho
  refine ⟨rfl, k, cs, fz, ho, hc.size, hc.exact', hc.most, hc.lim, hc.free, fun p hp hp' => ?_⟩
  obtain ⟨_, v, hv, hr⟩ := hc.cell p hp hp'
  have e : p = 0 := by omega
  subst e
  rw [get4_put]
  rw [e1] at hr
  exact ⟨rfl, v, hv, hr⟩
theorem row_putRows_ne {b : Nat} (hb : b < 262144) : ∀ {l : Rows} {h : Hp}, (∀ p ∈ l, p.1 < 262144 ∧ p.1 ≠ b) → row (putRows l h) b = row h b
  | [], _, _ => rfl
  | p :: l, h, hl => by
    change row (fN8 (put6 h (p6 p.1) p.2) fun h => putRows l h) b = _
    have hp := hl p (List.mem_cons_self ..)
    rw [fN8_eq, row_putRows_ne hb fun q hq => hl q (List.mem_cons_of_mem _ hq), row_put_ne hp.1 hb hp.2]
theorem row_putRows {b : Nat} (hb : b < 262144) : ∀ {l : Rows} {h : Hp}, (∀ p ∈ l, p.1 < 262144) → row (putRows l h) b = row h b ∨ ∃ p ∈ l, p.1 = b ∧ row (putRows l h) b = p.2
  | [], _, _ => .inl rfl
  | p :: l, h, hl => by
    have e : putRows (p :: l) h = putRows l (put6 h (p6 p.1) p.2) := by
      change (fN8 (put6 h (p6 p.1) p.2) fun h => putRows l h) = _
      rw [fN8_eq]
    rw [e]
    rcases row_putRows hb (l := l) (h := put6 h (p6 p.1) p.2) fun q hq => hl q (List.mem_cons_of_mem _ hq) with h1 | ⟨q, hq, h1, h2⟩
    · rw [h1]
      by_cases hpb : p.1 = b
      · subst hpb
        exact .inr ⟨p, List.mem_cons_self .., rfl, row_put ..⟩
      · exact .inl (row_put_ne (hl p (List.mem_cons_self ..)) hb hpb)
    · exact .inr ⟨q, List.mem_cons_of_mem _ hq, h1, h2⟩
theorem rowsLe_ok {l : Rows} {h : Hp} (hl : rowsLe l h = true) : ∀ p ∈ l, leOb p.2 (row h p.1) = true := by
  rw [rowsLe, allL_eq] at hl
  exact List.all_eq_true.1 hl
/-- a state of which less is told -/
theorem St.less {gs base : Nat} {H H0 : Hp} {nx : Nat} {hp : Array Obj} (h : St gs base ι H nx hp) (hs : ∀ b, b < 262144 → (row H0 b).live = false ∨ ((row H b).live = true ∧ ∀ m, ι b = some m → ObR gs ι m (row H b) hp[m.c]? → ObR gs ι m (row H0 b) hp[m.c]?)) : St gs base ι H0 nx hp := by
  have up : ∀ b, b < nx → (row H0 b).live = true → (row H b).live = true := fun b hb hl => by
    rcases hs b (Nat.lt_of_lt_of_le hb h.lim) with e | e
    · rw [e] at hl; cases hl
    · exact e.1
  refine ⟨h.glob, h.lim, h.low, h.fresh, fun b hb hb' => ?_, h.old, fun b hb hl => ?_, fun b b' m m' hb hb' e1 e2 hc l1 l2 => h.inj b b' m m' hb hb' e1 e2 hc (up b hb l1) (up b' hb' l2), h.sep⟩
  · rcases hs b hb' with e | e
    · exact e
    · rw [h.dead b hb hb'] at e; cases e.1
  · obtain ⟨m, e, r⟩ := h.obs b hb (up b hb hl)
    rcases hs b (Nat.lt_of_lt_of_le hb h.lim) with e' | e'
    · rw [e'] at hl; cases hl
    · exact ⟨m, e, e'.2 m e r⟩
/-- an entry is told rightly -/
theorem ent_ok {P : Program} {X : Orc} {f g0 : Nat} {e0 : TypeId} {g : FuncId} {e : Ent} (hN : NamesOk P) (hX : OrcOk P.globals.size P X) (hmix : P.follows .mixedOrders = true) (hg0 : g0 < P.globals.size) (he : ∀ m, entB P X f g0 e0 g e m = true) (hok : entOk g0 e = true)
    {base : Nat} {H : Hp} {w : World} {args : List AV} {args' : Array Value} (ha : VRs ι args args'.toList) (hst : St P.globals.size base ι H e.n0 w.heap) (hargs : sameL leV e.args args = true) (hint : isIntRow e0 (row H g0) = true) (hrows : rowsLe e.rows H = true) :
    (callFunc g args').run P w = .ok (.enter g args') w ∧ ∀ m, CallsIn (FW none) m P g args' w (Back P.globals.size base ι H e.n0 w e.v (putRows e.news H) e.n1) := by
  simp only [entOk, band_eq, Bool.and_eq_true, allL_eq, List.all_eq_true, bnot_eq, Bool.not_eq_true'] at hok
  obtain ⟨htop, hnews, hold⟩ := hok
  have htop : e.n1 ≤ 262144 := Nat.le_of_ble_eq_true htop
  have hnews : ∀ p ∈ e.news, e.n0 ≤ p.1 ∧ p.1 < e.n1 := fun p hp => ⟨Nat.le_of_ble_eq_true (hnews p hp).1, by simpa using (hnews p hp).2⟩
  have hold : ∀ p ∈ e.rows, p.1 < e.n0 ∧ p.1 ≠ g0 := fun p hp => ⟨by simpa using (hold p hp).1, fun h => by have := (hold p hp).2; rw [h, Nat.beq_refl] at this; cases this⟩
  have hrows := rowsLe_ok hrows
  obtain ⟨mg, hmg, _, _⟩ := hst.glob g0 hg0
  have hg6 : g0 < 262144 := Nat.lt_of_lt_of_le (hst.lt hmg) hst.lim
  have hlive0 : (row H g0).live = true := by
    rw [isIntRow, onCellsOb_eq] at hint
    split at hint
    · rename_i h; rw [h]; rfl
    · cases hint
  obtain ⟨mg', hmg', hobg⟩ := hst.obs g0 (hst.lt hmg) hlive0
  obtain ⟨_, k, hk⟩ := isIntRow_ok hint hobg
  have h6 : ∀ p ∈ e.rows, p.1 < 262144 := fun p hp => Nat.lt_of_lt_of_le (hold p hp).1 hst.lim
  -- the rows as they are told
  have hH0 : ∀ b, b < 262144 → (row (hpOf g0 e0 k e.rows) b).live = false ∨ ((row H b).live = true ∧ ∀ m, ι b = some m → ObR P.globals.size ι m (row H b) w.heap[m.c]? → ObR P.globals.size ι m (row (hpOf g0 e0 k e.rows) b) w.heap[m.c]?) := fun b hb => by
    rcases row_putRows hb (l := e.rows) (h := put6 (all6 .dead) (p6 g0) (intRow e0 k)) h6 with h1 | ⟨p, hp, h1, h2⟩
    · by_cases hbg : b = g0
      · subst hbg
        refine .inr ⟨hlive0, fun m hm _ => ?_⟩
        rw [hmg'] at hm; cases hm
        show ObR _ _ _ (row (putRows e.rows (put6 (all6 .dead) (p6 b) (intRow e0 k))) b) _
        rw [h1, row_put]; exact hk
      · refine .inl ?_
        show (row (putRows e.rows (put6 (all6 .dead) (p6 g0) (intRow e0 k))) b).live = false
        rw [h1, row_put_ne hg6 hb (fun h => hbg h.symm)]
        show (get6 (all6 Ob.dead) (p6 b)).live = false
        rw [get6_all]; rfl
    · subst h1
      have := hrows p hp
      refine .inr ⟨(leOb_live this).2, fun m _ ho => ?_⟩
      show ObR _ _ _ (row (putRows e.rows (put6 (all6 .dead) (p6 g0) (intRow e0 k))) p.1) _
      rw [h2]; exact leOb_ok this ho
  have st0 := (hst.less hH0).rebase
  have hev := he k
  rw [entB, O.el_eq] at hev
  split at hev
  · cases hev
  rename_i v' H' nx' hcall
  simp only [band_eq, Bool.and_eq_true] at hev
  obtain ⟨hv, hnx, hnew⟩ := hev
  have hnx : nx' ≤ e.n1 := Nat.le_of_ble_eq_true hnx
  have hnew := rowsLe_ok hnew
  rw [evCall, oEl_eq] at hcall
  split at hcall
  · cases hcall
  rename_i fn hfn
  have ha0 : VRs ι e.args args'.toList := sameL_le (fun _ _ _ h hv => leV_ok h hv) hargs ha
  refine ⟨run_callFunc hN hfn (callF_ok (rdc := none) (m := 0) (ev_ok hN hX hmix f) hfn ha0 st0 hcall).1 _ w, fun m => ((callF_ok (rdc := none) (m := m) (ev_ok hN hX hmix f) hfn ha0 st0 hcall).2).mono ?_⟩
  rintro en w' ⟨x, ι', rfl, hx, s1, st1⟩
  refine ⟨x, ι', rfl, leV_ok hv hx, ?_⟩
  have hn0 : e.n0 ≤ e.n1 := Nat.le_trans s1.up hnx
  -- rows behind
  have hrow : ∀ b, b < 262144 → (row (putRows e.news H) b = row H b) ∨ (e.n0 ≤ b ∧ b < e.n1 ∧ (row H' b).live = true ∧ leOb (row (putRows e.news H) b) (row H' b) = true) := fun b hb => by
    rcases row_putRows hb (l := e.news) (h := H) fun p hp => by have := (hnews p hp).2; omega with h1 | ⟨p, hp, h1, h2⟩
    · exact .inl h1
    · subst h1
      have := hnew p hp
      exact .inr ⟨(hnews p hp).1, (hnews p hp).2, (leOb_live this).2, by rw [h2]; exact this⟩
  have hlt : ∀ b, (row H' b).live = true → b < 262144 → b < nx' := fun b hl hb => by
    rcases Nat.lt_or_ge b nx' with h | h
    · exact h
    · rw [st1.dead b h hb] at hl; cases hl
  have hliv : ∀ b, b < e.n1 → (row (putRows e.news H) b).live = true → (b < e.n0 ∧ row (putRows e.news H) b = row H b) ∨ (e.n0 ≤ b ∧ b < nx' ∧ (row H' b).live = true ∧ leOb (row (putRows e.news H) b) (row H' b) = true) := fun b hb hl => by
    have hb6 : b < 262144 := Nat.lt_of_lt_of_le hb htop
    rcases hrow b hb6 with h1 | ⟨h1, h2, h3, h4⟩
    · refine .inl ⟨?_, h1⟩
      rcases Nat.lt_or_ge b e.n0 with h | h
      · exact h
      · rw [h1, hst.dead b h hb6] at hl; cases hl
    · exact .inr ⟨h1, hlt b h3 hb6, h3, h4⟩
  refine ⟨⟨s1.ext, s1.size, hn0, fun c hc _ => s1.all_same hc, fun c hc hl => ?_, s1.os, s1.output, s1.tape, s1.keep, fun b k' i j hb hr => ⟨?_, fun mm _ hs => s1.all_same hs⟩⟩,
    ⟨hst.glob.mono s1.ext, htop, Nat.le_trans hst.low hn0, fun b hb => st1.fresh b (by omega), fun b hb hb' => ?_, st1.old, fun b hb hl => ?_, fun b b' m m' hb hb' e1 e2 hc l1 l2 => ?_, fun y b m m' hy hb e1 e2 => ?_⟩⟩
  · obtain ⟨b, m', hb, e1, hcc, l⟩ := hl
    rcases hliv b hb l with ⟨h1, h2⟩ | ⟨h1, h2, h3, h4⟩
    · rw [s1.keep b h1] at e1
      rw [h2] at l
      exact ⟨b, m', h1, e1, hcc, l⟩
    · obtain ⟨b1, m1, hb1, f1, f2, f3⟩ := s1.live c hc ⟨b, m', h2, e1, hcc, h3⟩
      refine ⟨b1, m1, hb1, f1, f2, ?_⟩
      rcases hH0 b1 (Nat.lt_of_lt_of_le hb1 hst.lim) with h | h
      · rw [h] at f3; cases f3
      · exact h.1
  · rcases hrow b (Nat.lt_of_lt_of_le hb hst.lim) with h1 | ⟨h1, _⟩
    · rw [h1]; exact hr
    · omega
  · rcases hrow b hb' with h1 | ⟨_, h2, _⟩
    · rw [h1]; exact hst.dead b (by omega) hb'
    · omega
  · rcases hliv b hb hl with ⟨h1, h2⟩ | ⟨h1, h2, h3, h4⟩
    · rw [h2] at hl ⊢
      obtain ⟨m', f1, f2⟩ := hst.obs b h1 hl
      exact ⟨m', s1.ext _ _ f1, by rw [s1.all_same (hst.old _ _ f1)]; exact f2.mono s1.ext⟩
    · obtain ⟨m', f1, f2⟩ := st1.obs b h2 h3
      exact ⟨m', f1, leOb_ok h4 f2⟩
  · rcases hliv b hb l1 with ⟨h1, h2⟩ | ⟨h1, h2, h3, h4⟩
    · rcases hliv b' hb' l2 with ⟨h1', h2'⟩ | ⟨h1', h2', h3', h4'⟩
      · rw [s1.keep b h1] at e1
        rw [s1.keep b' h1'] at e2
        rw [h2] at l1
        rw [h2'] at l2
        exact hst.inj b b' m m' h1 h1' e1 e2 hc l1 l2
      · exact absurd hc (st1.sep b b' m m' h1 h1' e1 e2)
    · rcases hliv b' hb' l2 with ⟨h1', h2'⟩ | ⟨h1', h2', h3', h4'⟩
      · exact absurd hc.symm (st1.sep b' b m' m h1' h1 e2 e1)
      · exact st1.inj b b' m m' h2 h2' e1 e2 hc h3 h3'
  · have hyn : y < e.n0 := Nat.lt_of_lt_of_le hy hst.low
    rcases Nat.lt_or_ge b e.n0 with h | h
    · rw [s1.keep y hyn] at e1
      rw [s1.keep b h] at e2
      exact hst.sep y b m m' hy hb e1 e2
    · exact st1.sep y b m m' hyn h e1 e2
/-- a table of calls -/
theorem oc_tab {P : Program} {X : Orc} {f g0 : Nat} {e0 : TypeId} {g : FuncId} {l : List Ent} (hN : NamesOk P) (hX : OrcOk P.globals.size P X) (hmix : P.follows .mixedOrders = true) (hg0 : g0 < P.globals.size) (he : ∀ e ∈ l, ∀ m, entB P X f g0 e0 g e m = true) : OcOk P.globals.size P g (ocT g0 e0 l) := by
  intro base ι H nx w args args' v H' nx' ha hst hv
  induction l with
  | nil => cases hv
  | cons e l ih =>
    change bEl (Nat.beq nx e.n0) (bEl (sameL leV e.args args) (bEl (isIntRow e0 (row H g0)) (bEl (rowsLe e.rows H) (bEl (entOk g0 e) (.val e.v (putRows e.news H) e.n1) (.fail 204)) (.fail 203)) (.fail 202)) (.fail 201)) (ocT g0 e0 l base args H nx) = _ at hv
    rw [bEl_eq] at hv
    split at hv
    case isFalse => exact ih (fun e' h' => he e' (List.mem_cons_of_mem _ h')) hv
    rename_i hn
    have hn := Nat.eq_of_beq_eq_true hn
    rw [bEl_eq] at hv
    split at hv
    case isFalse => cases hv
    rename_i hargs
    rw [bEl_eq] at hv
    split at hv
    case isFalse => cases hv
    rename_i hint
    rw [bEl_eq] at hv
    split at hv
    case isFalse => cases hv
    rename_i hrows
    rw [bEl_eq] at hv
    split at hv
    case isFalse => cases hv
    rename_i hok
    cases hv
    subst hn
    exact .inr (ent_ok hN hX hmix hg0 (he e (List.mem_cons_self ..)) hok ha hst hargs hint hrows)
end Go.Abs
