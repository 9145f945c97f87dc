import Derived.Test.YtbnckdnnaoddfaaGreatDoorAbsC
set_option linter.all false
namespace Go.Abs
variable {P : Program} {gs base : Nat}
/-- the widest fence, within a round or not -/
def FW (rd : Option Nat) : Fence := { Fence.wide with round := rd }
theorem FW_round (rd : Option Nat) : (FW rd).round = rd := rfl
theorem FW_fn (rd : Option Nat) (f : FuncId) : (FW rd).fn f := trivial
theorem FW_in (rd : Option Nat) (l : Nat) : (FW rd).inRound l = FW (some l) := rfl
theorem FW_wide : FW none = Fence.wide := rfl
theorem FW_calls {rd rd' : Option Nat} {n : Nat} {f : FuncId} {args : Array Value} {w : World} {R : Ending → World → Prop} (h : CallsIn (FW rd) n P f args w R) : CallsIn (FW rd') n P f args w R := h
/-- the marks of ranges over functions among the deferred calls, laid since the heap had so many blocks -/
structure Marks (s : Nat) (ι : Inj) (H : Hp) (nx : Nat) (w : World) (ds : List Deferred) : Prop where
  all : ∀ d ∈ ds, ∃ c, d.target = .collected c ∧ s ≤ c ∧ c < w.heap.size ∧ w.heap[c]? = some (.deferred (some [])) ∧ ¬ Live ι H nx c
  apart : ds.Pairwise fun d d' => d.target ≠ d'.target
theorem Marks.nil {s : Nat} {ι : Inj} {H : Hp} {nx : Nat} {w : World} : Marks s ι H nx w [] := ⟨by simp, .nil⟩
theorem Marks.step {s : Nat} {ι ι' : Inj} {H H' : Hp} {nx nx' : Nat} {w w' : World} {ds : List Deferred} (h : Marks s ι H nx w ds) (k : Stp base ι H nx w ι' H' nx' w') : Marks s ι' H' nx' w' ds :=
  ⟨fun d hd => let ⟨c, h1, h0, h2, h3, h4⟩ := h.all d hd; ⟨c, h1, h0, Nat.lt_of_lt_of_le h2 k.size, by rw [k.same c h2 (.inl h4)]; exact h3, fun hl => h4 (k.live c h2 hl)⟩, h.apart⟩
theorem Marks.append {s s' : Nat} {ι : Inj} {H : Hp} {nx : Nat} {w : World} {ds es : List Deferred} (h : Marks s' ι H nx w ds) (k : Marks s ι H nx w es) (hs : s ≤ s') (he : ∀ d ∈ es, ∀ c, d.target = .collected c → c < s') : Marks s ι H nx w (ds ++ es) := by
  refine ⟨fun d hd => ?_, List.pairwise_append.2 ⟨h.apart, k.apart, fun d hd e he' => ?_⟩⟩
  · rcases List.mem_append.1 hd with hd | hd
    · obtain ⟨c, h1, h2, h3⟩ := h.all d hd; exact ⟨c, h1, Nat.le_trans hs h2, h3⟩
    · exact k.all d hd
  · obtain ⟨c, h1, h2, _⟩ := h.all d hd
    obtain ⟨c', k1, _⟩ := k.all e he'
    have := he e he' c' k1
    rw [h1, k1]; simp; omega
/-- temporaries that stay -/
def Keeps (l : List Nat) (a a' : Act) : Prop := a'.tmps.size = a.tmps.size ∧ ∀ i, i ∉ l → a'.tmps[i]? = a.tmps[i]?
theorem Keeps.refl (l : List Nat) (a : Act) : Keeps l a a := ⟨rfl, fun _ _ => rfl⟩
theorem Keeps.trans {l : List Nat} {a b c : Act} (h : Keeps l a b) (k : Keeps l b c) : Keeps l a c := ⟨k.1.trans h.1, fun i hi => (k.2 i hi).trans (h.2 i hi)⟩
theorem Keeps.mono {l l' : List Nat} {a b : Act} (h : Keeps l a b) (hl : ∀ i ∈ l, i ∈ l') : Keeps l' a b := ⟨h.1, fun i hi => h.2 i fun hh => hi (hl i hh)⟩
/-- which end of the way -/
def Fits : R → Exit → Tm → Hp → Nat → Prop
  | .norm t h n, e, t', h', n' => e = .normal ∧ t' = t ∧ h' = h ∧ n' = n
  | .exit id t h n, e, t', h', n' => e = .exit id ∧ t' = t ∧ h' = h ∧ n' = n
  | .ret t h n, e, t', h', n' => e = .ret ∧ t' = t ∧ h' = h ∧ n' = n
  | .fail _, _, _, _, _ => False
/-- what a way does -/
structure Goes (gs base n : Nat) (l : List Nat) (ι : Inj) (H : Hp) (nx : Nat) (w : World) (a : Act) (ι' : Inj) (t' : Tm) (H' : Hp) (nx' : Nat) (a' : Act) (w' : World) : Prop where
  stp : Stp base ι H nx w ι' H' nx' w'
  st : St gs base ι' H' nx' w'.heap
  tr : TR ι' n t' a'.tmps
  keeps : Keeps l a a'
  marks : ∃ ds, a'.defers = ds ++ a.defers ∧ Marks w.heap.size ι' H' nx' w' ds
theorem Goes.refl {gs base n : Nat} {l : List Nat} {ι : Inj} {H : Hp} {nx : Nat} {w : World} {a : Act} {t : Tm} (hst : St gs base ι H nx w.heap) (ht : TR ι n t a.tmps) : Goes gs base n l ι H nx w a ι t H nx a w :=
  ⟨.refl .., hst, ht, .refl .., [], rfl, .nil⟩
theorem Goes.mono {gs base n : Nat} {l l' : List Nat} {ι ι' : Inj} {H H' : Hp} {nx nx' : Nat} {w w' : World} {a a' : Act} {t' : Tm} (h : Goes gs base n l ι H nx w a ι' t' H' nx' a' w') (hl : ∀ i ∈ l, i ∈ l') : Goes gs base n l' ι H nx w a ι' t' H' nx' a' w' :=
  ⟨h.stp, h.st, h.tr, h.keeps.mono hl, h.marks⟩
theorem Goes.trans {gs base n : Nat} {l : List Nat} {ι ι' ι'' : Inj} {H H' H'' : Hp} {nx nx' nx'' : Nat} {w w' w'' : World} {a a' a'' : Act} {t' t'' : Tm} (h : Goes gs base n l ι H nx w a ι' t' H' nx' a' w')
    (k : Goes gs base n l ι' H' nx' w' a' ι'' t'' H'' nx'' a'' w'') : Goes gs base n l ι H nx w a ι'' t'' H'' nx'' a'' w'' := by
  obtain ⟨ds, e, m⟩ := h.marks
  obtain ⟨ds', e', m'⟩ := k.marks
  refine ⟨h.stp.trans k.stp, k.st, k.tr, h.keeps.trans k.keeps, ds' ++ ds, by rw [e', e, List.append_assoc], m'.append (m.step k.stp) h.stp.size fun d hd c hc => ?_⟩
  obtain ⟨c', h1, _, h3, _⟩ := m.all d hd
  rw [hc] at h1; cases h1; exact h3
/-- what is known at the end of code -/
def Post (gs base n : Nat) (l : List Nat) (r : R) (ι : Inj) (H : Hp) (nx : Nat) (w : World) (a : Act) (e : Exit) (a' : Act) (w' : World) : Prop :=
  ∃ t' H' nx' ι', Fits r e t' H' nx' ∧ Goes gs base n l ι H nx w a ι' t' H' nx' a' w'
theorem Post.trans {gs base n : Nat} {l : List Nat} {r : R} {ι ι' : Inj} {H H' : Hp} {nx nx' : Nat} {w w' w'' : World} {a a' a'' : Act} {t' : Tm} {e : Exit} (h : Goes gs base n l ι H nx w a ι' t' H' nx' a' w')
    (k : Post gs base n l r ι' H' nx' w' a' e a'' w'') : Post gs base n l r ι H nx w a e a'' w'' :=
  let ⟨t, H, nx, ι, f, g⟩ := k; ⟨t, H, nx, ι, f, h.trans g⟩
theorem Post.mono {gs base n : Nat} {l l' : List Nat} {r : R} {ι : Inj} {H : Hp} {nx : Nat} {w w' : World} {a a' : Act} {e : Exit} (h : Post gs base n l r ι H nx w a e a' w') (hl : ∀ i ∈ l, i ∈ l') : Post gs base n l' r ι H nx w a e a' w' :=
  let ⟨t, H, nx, ι, f, g⟩ := h; ⟨t, H, nx, ι, f, g.mono hl⟩
/-- the round that code is in -/
def RdR (ι : Inj) : Option Nat → Option Nat → Prop
  | none, none => True
  | some b, some c => ∃ m, ι b = some m ∧ m.c = c
  | _, _ => False
theorem RdR.mono {ι ι' : Inj} (hi : ι.le ι') : ∀ {rd rdc : Option Nat}, RdR ι rd rdc → RdR ι' rd rdc
  | none, none, _ => trivial
  | some _, some _, ⟨m, h1, h2⟩ => ⟨m, hi _ _ h1, h2⟩
  | none, some _, h => h
  | some _, none, h => h
/-- code is walked soundly -/
def CdOk (gs : Nat) (P : Program) (rec : Cd) : Prop := ∀ (base : Nat) (rd : Option Nat) (c : Code) (t : Tm) (H : Hp) (nx n m : Nat) (ι : Inj) (w : World) (a : Act) (rdc : Option Nat),
  (∀ k, rec base rd c t H nx ≠ .fail k) → codeB gs n c = true → TR ι n t a.tmps → St gs base ι H nx w.heap → RdR ι rd rdc →
    c.wpIn (FW rdc) m P (Post gs base n (wrs c) (rec base rd c t H nx) ι H nx w a) a w
end Go.Abs
namespace Go.Abs
variable {P : Program} {X : Orc} {o : Oper}
theorem blt1_q0 {c : Call} {ty : TypeId} {x : Operand} {b : Builtin} {f : Q0} (h : o.op = .call c) (hb : c.callee = .builtin b) (ht : c.argTypes[0]? = some ty) (ha : c.args.toList = [x]) (hk : blt1 P ty x b = .q0 f) : Q0R P o f := by
  unfold blt1 at hk
  split at hk
  · rw [bEl_eq] at hk
    split at hk
    · cases hk
    · cases hk; exact q_len h hb ht ha
  · cases hk; exact q_cap h hb ht ha
  · cases hk; exact q_data h hb ha
  · cases hk
  · cases hk
theorem blt2_q0 {c : Call} {ty xt : TypeId} {x y : Operand} {b : Builtin} {f : Q0} (h : o.op = .call c) (hb : c.callee = .builtin b) (ha : c.args.toList = [x, y]) (hk : blt2 P ty xt x y b = .q0 f) : Q0R P o f := by
  unfold blt2 at hk
  split at hk
  · cases hk
  · cases hk; exact q_max h hb ha
  · cases hk; exact q_min h hb ha
  · cases hk
  · cases hk
  · cases hk
/-- the shapes of a builtin's call -/
theorem bltK_inv {tys : List TypeId} {xs : List Operand} {b : Builtin} {k : Kd} (h : bltK P tys xs b = k) (hk : k ≠ .no) :
    (∃ ty x, tys[0]? = some ty ∧ xs = [x] ∧ blt1 P ty x b = k) ∨ (∃ ty xt x y, tys[0]? = some ty ∧ tys[1]? = some xt ∧ xs = [x, y] ∧ blt2 P ty xt x y b = k) := by
  rw [bltK, lEl_eq] at h
  split at h
  · exact absurd h.symm hk
  · rename_i ty tys'
    rw [lEl_eq] at h
    split at h
    · exact absurd h.symm hk
    · rename_i x xs'
      rw [lEl_eq] at h
      split at h
      · exact .inl ⟨ty, x, rfl, rfl, h⟩
      · rename_i y xs''
        rw [lEl_eq] at h
        split at h
        · rw [lEl_eq] at h
          split at h
          · exact absurd h.symm hk
          · rename_i xt tys''
            exact .inr ⟨ty, xt, x, y, rfl, rfl, rfl, h⟩
        · exact absurd h.symm hk
theorem kOf_q0 {f : Q0} (hk : kOf P X o.op = .q0 f) : Q0R P o f := by
  cases ho : o.op <;> rw [ho] at hk <;> try (cases hk; done)
  case move x => cases hk; exact q_move ho
  case assign x => cases hk; exact q_assign ho
  case pick c a b => cases hk; exact q_pick ho
  case build t ps => cases hk; exact q_build ho
  case nilCheck x => cases hk; exact q_nilCheck ho
  case binOp op t x y yt => cases hk; exact q_bin ho
  case unOp op t x => cases hk; exact q_un ho
  case makeInterface t x => cases hk; exact q_makeIface ho
  case makeFunc fn a b => cases hk; exact q_makeFunc ho
  case slice t x lo hi mx => cases hk; exact q_slice ho
  case fieldAddr t x i => cases hk; exact q_field ho
  case field t x i => cases hk; exact q_fieldV ho
  case indexAddr t x i => cases hk; exact q_indexAddr ho
  case index t x i => cases hk; exact q_index ho
  case extract x i => cases hk; exact q_extract ho
  case convert s d x =>
    change cvK P s d x = .q0 f at hk
    unfold cvK at hk
    split at hk
    · split at hk <;> cases hk
    · split at hk <;> cases hk
    · cases hk
    · cases hk
    · cases hk; exact q_convert ho
  case range t x =>
    change rangeK P t x = .q0 f at hk
    rw [rangeK, bEl_eq] at hk
    split at hk <;> cases hk
  case call c =>
    change callK P X c = .q0 f at hk
    cases hc : c.callee with
    | value g => rw [callK, hc] at hk; cases hk
    | invoke r n => rw [callK, hc] at hk; cases hk
    | builtin b =>
      rw [callK, hc] at hk
      rcases bltK_inv hk (by simp) with ⟨ty, x, h1, h2, h3⟩ | ⟨ty, xt, x, y, h1, h2, h3, h4⟩
      · exact blt1_q0 ho hc (by rw [← Array.getElem?_toList]; exact h1) h2 h3
      · exact blt2_q0 ho hc h3 h4
theorem kOf_q1 {f : Q1} (hk : kOf P X o.op = .q1 f) : Q1R P o f := by
  cases ho : o.op <;> rw [ho] at hk <;> try (cases hk; done)
  case load t a => cases hk; exact r_load ho
  case lookup t m k ok => cases hk; exact r_lookup ho
  case entry it => cases hk; exact r_entry ho
  case convert s d x =>
    change cvK P s d x = .q1 f at hk
    unfold cvK at hk
    split at hk
    · rename_i e hs hd
      split at hk
      · rename_i he; cases hk; exact r_convert ho hs hd he
      · cases hk
    · split at hk <;> cases hk
    · rename_i e hs hd; cases hk; exact r_toUnsafe ho hs hd
    · rename_i u hs hd; cases hk; exact r_ofUnsafe ho hs hd
    · cases hk
  case range t x =>
    change rangeK P t x = .q1 f at hk
    rw [rangeK, bEl_eq] at hk
    split at hk <;> cases hk
  case call c =>
    change callK P X c = .q1 f at hk
    cases hc : c.callee with
    | value g => rw [callK, hc] at hk; cases hk
    | invoke r n => rw [callK, hc] at hk; cases hk
    | builtin b =>
      rw [callK, hc] at hk
      rcases bltK_inv hk (by simp) with ⟨ty, x, h1, h2, h3⟩ | ⟨ty, xt, x, y, h1, h2, h3, h4⟩
      · unfold blt1 at h3
        split at h3
        · rw [bEl_eq] at h3
          split at h3
          · rename_i hm
            cases h3
            unfold mapB at hm
            split at hm
            · rename_i kt et hd
              exact r_len ho hc (by rw [← Array.getElem?_toList]; exact h1) h2 hd
            · cases hm
          · cases h3
        · cases h3
        · cases h3
        · cases h3
        · cases h3
      · unfold blt2 at h4
        split at h4 <;> cases h4
theorem kOf_al {f : A0} (hk : kOf P X o.op = .al f) : A0R P o f := by
  cases ho : o.op <;> rw [ho] at hk <;> try (cases hk; done)
  case alloc e => cases hk; exact a_alloc ho
  case box e x => cases hk; exact a_box ho
  case buildSlice t n ps => cases hk; exact a_buildSlice ho
  case makeMap t r => cases hk; exact a_makeMap ho
  case makeSlice t l c => cases hk; exact a_makeSlice ho
  case convert s d x =>
    change cvK P s d x = .al f at hk
    unfold cvK at hk
    split at hk
    · split at hk <;> cases hk
    · split at hk <;> cases hk
    · cases hk
    · cases hk
    · cases hk
  case range t x =>
    change rangeK P t x = .al f at hk
    rw [rangeK, bEl_eq] at hk
    split at hk
    · cases hk; exact a_range ho
    · cases hk
  case call c =>
    change callK P X c = .al f at hk
    cases hc : c.callee with
    | value g => rw [callK, hc] at hk; cases hk
    | invoke r n => rw [callK, hc] at hk; cases hk
    | builtin b =>
      rw [callK, hc] at hk
      rcases bltK_inv hk (by simp) with ⟨ty, x, h1, h2, h3⟩ | ⟨ty, xt, x, y, h1, h2, h3, h4⟩
      · unfold blt1 at h3
        split at h3
        · rw [bEl_eq] at h3
          split at h3 <;> cases h3
        · cases h3
        · cases h3
        · cases h3
        · cases h3
      · unfold blt2 at h4
        split at h4 <;> cases h4
/-- what does something is a call, or is sound by itself -/
theorem kOf_x {f : Xd} (hk : kOf P X o.op = .x f) : (∃ c g, o.op = .call c ∧ c.callee = .value g ∧ f = xCall P X g c.args) ∨ ∀ rec, X0R P o (fun base t H nx => f base rec t H nx) := by
  cases ho : o.op <;> rw [ho] at hk <;> try (cases hk; done)
  case store t a x => cases hk; exact .inr fun rec => x_store ho
  case mapUpdate t m k x => cases hk; exact .inr fun rec => x_update (.inl ho)
  case insert t m k x => cases hk; exact .inr fun rec => x_update (.inr ho)
  case next it s => cases hk; exact .inr fun rec => x_next ho
  case convert s d x =>
    change cvK P s d x = .x f at hk
    unfold cvK at hk
    split at hk
    · split at hk <;> cases hk
    · rename_i e hs hd
      split at hk
      · rename_i he; cases hk; exact .inr fun rec => x_bytes ho hs hd he
      · cases hk
    · cases hk
    · cases hk
    · cases hk
  case range t x =>
    change rangeK P t x = .x f at hk
    rw [rangeK, bEl_eq] at hk
    split at hk
    · cases hk
    · cases hk; exact .inr fun rec => x_range ho
  case call c =>
    change callK P X c = .x f at hk
    cases hc : c.callee with
    | value g => rw [callK, hc] at hk; cases hk; exact .inl ⟨c, g, rfl, hc, rfl⟩
    | invoke r n => rw [callK, hc] at hk; cases hk
    | builtin b =>
      rw [callK, hc] at hk
      rcases bltK_inv hk (by simp) with ⟨ty, x, h1, h2, h3⟩ | ⟨ty, xt, x, y, h1, h2, h3, h4⟩
      · unfold blt1 at h3
        split at h3
        · rw [bEl_eq] at h3
          split at h3 <;> cases h3
        · cases h3
        · cases h3
        · cases h3; exact .inr fun rec => x_clear ho hc (by rw [← Array.getElem?_toList]; exact h1) h2
        · cases h3
      · have e1 : c.argTypes[0]? = some ty := by rw [← Array.getElem?_toList]; exact h1
        have e2 : c.argTypes[1]? = some xt := by rw [← Array.getElem?_toList]; exact h2
        unfold blt2 at h4
        split at h4
        · cases h4; exact .inr fun rec => x_append ho hc e1 e2 h3
        · cases h4
        · cases h4
        · cases h4; exact .inr fun rec => x_string ho hc e1 h3
        · cases h4; exact .inr fun rec => x_copy ho hc e1 h3
        · cases h4
end Go.Abs
namespace Go.Abs
variable {P : Program} {X : Orc} {gs base n : Nat}
def dstL (o : Oper) : List Nat := match o.dst with | some d => [d] | none => []
theorem put_keeps (a : Act) (o : Oper) (v : Value) : Keeps (dstL o) a (a.put o.dst v) := by
  unfold dstL Act.put
  cases o.dst with
  | none => exact .refl ..
  | some d =>
    refine ⟨by simp, fun i hi => ?_⟩
    simp only [List.mem_singleton] at hi
    exact Array.getElem?_setIfInBounds_ne (fun e => hi e.symm)
theorem put_defers (a : Act) (d : Option Tmp) (v : Value) : (a.put d v).defers = a.defers := by cases d <;> rfl
theorem operB_dst {o : Oper} (h : operB gs n o = true) {d : Nat} (hd : o.dst = some d) : d < n := by
  unfold operB at h
  rw [bEl_eq] at h
  split at h
  · rename_i h1
    rw [oEl_eq, hd] at h1
    simpa using h1
  · cases h
/-- a value goes into its temporary -/
theorem putK_ok {ι : Inj} {o : Oper} {v : AV} {t : Tm} {k : Tm → R} {a : Act} {x : Value} (hB : operB gs n o = true) (ht : TR ι n t a.tmps) (hv : VR ι v x) : ∃ t', putK o.dst v t k = k t' ∧ TR ι n t' (a.put o.dst x).tmps := by
  rw [putK, oEl_eq]
  cases hd : o.dst with
  | none => exact ⟨t, rfl, ht⟩
  | some d => exact ⟨put3 t (p3 d) v, by simp only [fAV_eq, fN8_eq], ht.put (operB_dst hB hd) hv⟩
/-- what a guard says -/
theorem wantK_ok {ι : Inj} {ops : Array Oper} {o : Oper} {t : Tm} {a : Act} {g : Nat × Bool} {y nn r : R} (hg : o.guard = some g) (hB : ∀ p ∈ ops.toList, operB gs n p = true) (ht : TR ι n t a.tmps)
    (h : wantK ops.toList t g y nn = r) (hr : ∀ k, r ≠ .fail k) : (Region.wanted o (yielded ops a.tmps) = true ∧ y = r) ∨ (Region.wanted o (yielded ops a.tmps) = false ∧ nn = r) := by
  rw [wantK, oEl_eq, nth_eq] at h
  split at h
  · exact absurd h.symm (hr _)
  rename_i oj hoj
  rw [oEl_eq] at h
  split at h
  · exact absurd h.symm (hr _)
  rename_i d hd
  have hoj' : ops[g.1]? = some oj := by rw [← Array.getElem?_toList]; exact hoj
  obtain ⟨x, hx, hv⟩ := ht.val d (operB_dst (hB oj (List.mem_of_getElem? hoj)) hd)
  have hy : yielded ops a.tmps g.1 = (match x with | .bool b => some b | _ => none) := by
    simp only [yielded, hoj', Option.bind_some, hd, hx]
    cases x <;> rfl
  rw [onBool_eq] at h
  split at h
  · rename_i b e
    rw [e] at hv
    have := hv.bool_inv; subst this
    rw [bEl_eq, beqB_eq] at h
    have hw : Region.wanted o (yielded ops a.tmps) = (b == g.2) := by
      simp only [Region.wanted, hg, hy]
      cases b <;> cases g.2 <;> rfl
    rw [hw]
    split at h
    · rename_i hb; exact .inl ⟨hb, h⟩
    · rename_i hb; exact .inr ⟨by simpa using hb, h⟩
  · rw [onTuple_eq] at h
    split at h
    · rename_i l e
      rw [e] at hv
      obtain ⟨b, rfl, _⟩ := hv.tuple_inv
      refine .inr ⟨?_, h⟩
      simp only [Region.wanted, hg, hy]; rfl
    · exact absurd h.symm (hr _)
/-- the call of a function value, soundly -/
def CallStep (P : Program) (X : Orc) (gs base : Nat) (rec : Cd) (rdc : Option Nat) (m : Nat) (ι : Inj) (t : Tm) (H : Hp) (nx : Nat) (a : Act) (w : World) (o : Oper) : Prop :=
  ∀ (c : Call) (g : Operand), o.op = .call c → c.callee = .value g → ∀ v H' nx', xCall P X g c.args base rec t H nx = .val v H' nx' → ∀ (next : Act → World → Prop) (Q : Exit → Act → World → Prop),
    (∀ x ι' w', VR ι' v x → Stp base ι H nx w ι' H' nx' w' → St gs base ι' H' nx' w'.heap → next (a.put o.dst x) w') → o.wpIn (FW rdc) m P a w next Q
/-- of all calls -/
def CallsOk (P : Program) (X : Orc) (gs base : Nat) (rec : Cd) (rdc : Option Nat) (m : Nat) : Prop := ∀ (o : Oper) (ι : Inj) (t : Tm) (H : Hp) (nx : Nat) (a : Act) (w : World),
  (∀ x ∈ opnds o.op, VR ι (opd x t) (a.eval x)) → St gs base ι H nx w.heap → CallStep P X gs base rec rdc m ι t H nx a w o
theorem wpIn_run {o : Oper} {rdc : Option Nat} {m : Nat} {a : Act} {w : World} {next : Act → World → Prop} {Q : Exit → Act → World → Prop} (hd : ∀ c, o.op ≠ .defer c) (h : o.uponIn (FW rdc) m P a next Q ((execOp a.eval o).run P w)) : o.wpIn (FW rdc) m P a w next Q :=
  ⟨fun _ _ => trivial, by rw [Oper.semAt_eq _ _ _ hd]; exact h⟩
theorem goK_ok {rec : Cd} {rdc : Option Nat} {m : Nat} {ι : Inj} {o : Oper} {t : Tm} {H : Hp} {nx : Nat} {a : Act} {w : World} {k : Kt} {r : R} (hB : operB gs n o = true) (ht : TR ι n t a.tmps) (hst : St gs base ι H nx w.heap)
    (hc : CallStep P X gs base rec rdc m ι t H nx a w o) (h : goK P X base rec o k t H nx = r) (hr : ∀ j, r ≠ .fail j) (next : Act → World → Prop) (Q : Exit → Act → World → Prop)
    (hn : ∀ a' w' ι' t' H' nx', k t' H' nx' = r → Stp base ι H nx w ι' H' nx' w' → St gs base ι' H' nx' w'.heap → TR ι' n t' a'.tmps → Keeps (dstL o) a a' → a'.defers = a.defers → next a' w') : o.wpIn (FW rdc) m P a w next Q := by
  have hO := opds_ok ht hst.glob hB
  -- behind the operation
  have fin : ∀ (v : AV) (H' : Hp) (nx' : Nat) (x : Value) (ι' : Inj) (w' : World), putK o.dst v t (fun t => k t H' nx') = r → VR ι' v x → Stp base ι H nx w ι' H' nx' w' → St gs base ι' H' nx' w'.heap → next (a.put o.dst x) w' := by
    intro v H' nx' x ι' w' hk hv hs hst'
    obtain ⟨t', e, ht'⟩ := putK_ok (k := fun t => k t H' nx') hB (ht.mono hs.ext) hv
    rw [e] at hk
    exact hn _ _ _ _ _ _ hk hs hst' ht' (put_keeps a o x) (put_defers ..)
  have hnd : kOf P X o.op ≠ .no → ∀ c, o.op ≠ .defer c := by
    rintro hk c e
    rw [e] at hk; exact hk rfl
  rw [goK, Kd.el_eq] at h
  split at h
  · rename_i f hk
    rw [oEl_eq] at h
    split at h
    · exact absurd h.symm (hr _)
    · rename_i v hv
      obtain ⟨x, hx, hrun⟩ := kOf_q0 hk ι t a.eval hO v hv
      exact wpIn_run (hnd (by rw [hk]; simp)) (by rw [hrun w]; exact fin v H nx x ι w h hx (.refl ..) hst)
  · rename_i f hk
    rw [oEl_eq] at h
    split at h
    · exact absurd h.symm (hr _)
    · rename_i v hv
      obtain ⟨x, hx, hrun⟩ := kOf_q1 hk gs base ι H nx w t a.eval hst hO v hv
      exact wpIn_run (hnd (by rw [hk]; simp)) (by rw [hrun]; exact fin v H nx x ι w h hx (.refl ..) hst)
  · rename_i f hk
    rw [AR.el_eq] at h
    split at h
    · exact absurd h.symm (hr _)
    · rename_i ob kv hv
      obtain ⟨N, hl, hrun⟩ := kOf_al hk ι t a.eval hO ob kv hv
      obtain ⟨x, ob', hrun, hrel⟩ := hrun w
      rw [O.el_eq] at h
      split at h
      · exact absurd h.symm (hr _)
      · rename_i v H' nx' hnew
        obtain ⟨h1, h2⟩ := hrel gs (ι.put nx ⟨w.heap.size, 0, N⟩) nx ⟨w.heap.size, 0, N⟩ (Inj.le_put (hst.fresh nx (Nat.le_refl _))) (Inj.put_self _ _ _) rfl rfl rfl
        obtain ⟨rfl, s1, s2⟩ := new_ok hst hnew (m := ⟨w.heap.size, 0, N⟩) (o := ob') (w1 := w.alloc ob') rfl h1 rfl rfl rfl rfl
        exact wpIn_run (hnd (by rw [hk]; simp)) (by rw [hrun]; exact fin _ H' nx' x _ _ h h2 s1 s2)
  · rename_i f hk
    rw [O.el_eq] at h
    split at h
    · exact absurd h.symm (hr _)
    · rename_i v H' nx' hv
      rcases kOf_x hk with ⟨c, g, ho, hcl, rfl⟩ | hx
      · exact hc c g ho hcl v H' nx' hv next Q fun x ι' w' h1 h2 h3 => fin v H' nx' x ι' w' h h1 h2 h3
      · obtain ⟨nx2, x, w', ι', hrun, hn2, h1, h2, h3⟩ := hx rec gs base ι H nx w t a.eval hst hO v H' nx' hv
        refine wpIn_run (hnd (by rw [hk]; simp)) ?_
        rw [hrun]
        rcases hn2 with rfl | ⟨rfl, rfl⟩
        · exact fin v H' nx' x ι' w' h h1 h2 h3
        · exact fin v H' nx' undef ι' w' h h1 h2 h3
  · exact absurd h.symm (hr _)
theorem dsts_cons (o : Oper) (l : List Oper) : dsts (o :: l) = dstL o ++ dsts l := by
  show oEl o.dst (dsts l) (fun d => d :: dsts l) = _
  rw [oEl_eq]; unfold dstL
  cases o.dst <;> rfl
/-- operations one after the other -/
theorem evOps_ok {rec : Cd} {rdc : Option Nat} {m : Nat} {ops : Array Oper} (hB : ∀ p ∈ ops.toList, operB gs n p = true)
    (hcs : CallsOk P X gs base rec rdc m) :
    ∀ (l : List Oper) (i : Nat), ops.toList.drop i = l → ∀ (ι : Inj) (t : Tm) (H : Hp) (nx : Nat) (a : Act) (w : World) (r : R), TR ι n t a.tmps → St gs base ι H nx w.heap →
      evOps P X base rec ops.toList l t H nx = r → (∀ j, r ≠ .fail j) → ∀ Q : Exit → Act → World → Prop,
        (∀ a' w' ι' t' H' nx', r = .norm t' H' nx' → Stp base ι H nx w ι' H' nx' w' → St gs base ι' H' nx' w'.heap → TR ι' n t' a'.tmps → Keeps (dsts l) a a' → a'.defers = a.defers → Q .normal a' w') →
          wpOpsIn (FW rdc) m P ops Q (List.range' i l.length) a w
  | [], i, _, ι, t, H, nx, a, w, r, ht, hst, h, hr, Q, hQ => hQ a w ι t H nx h.symm (.refl ..) hst ht (.refl ..) rfl
  | o :: l, i, hdrop, ι, t, H, nx, a, w, r, ht, hst, h, hr, Q, hQ => by
    have hget : ops[i]? = some o := by
      rw [← Array.getElem?_toList]
      have := congrArg (·[0]?) hdrop
      simpa using this
    have hmem : o ∈ ops.toList := List.mem_of_getElem? (by rw [Array.getElem?_toList]; exact hget)
    have hdrop' : ops.toList.drop (i + 1) = l := by
      rw [← List.drop_drop, hdrop]; rfl
    have ih := evOps_ok hB hcs l (i + 1) hdrop'
    rw [List.length_cons, List.range'_succ]
    unfold wpOpsIn
    rw [hget]
    simp only
    change oEl o.guard (goK P X base rec o (evOps P X base rec ops.toList l) t H nx) (fun g => wantK ops.toList t g (goK P X base rec o (evOps P X base rec ops.toList l) t H nx) (putK o.dst unit t fun t => evOps P X base rec ops.toList l t H nx)) = r at h
    have go : goK P X base rec o (evOps P X base rec ops.toList l) t H nx = r → o.wpIn (FW rdc) m P a w (wpOpsIn (FW rdc) m P ops Q (List.range' (i + 1) l.length)) Q := fun h =>
      goK_ok (hB o hmem) ht hst (hcs o ι t H nx a w (opds_ok ht hst.glob (hB o hmem)) hst) h hr _ Q fun a' w' ι' t' H' nx' hk hs hst' ht' hke hm' =>
        ih ι' t' H' nx' a' w' r ht' hst' hk hr Q fun a2 w2 ι2 t2 H2 nx2 e s2 st2 tr2 k2 m2 =>
          hQ a2 w2 ι2 t2 H2 nx2 e (hs.trans s2) st2 tr2 ((hke.mono (by rw [dsts_cons]; exact fun i hi => List.mem_append_left _ hi)).trans (k2.mono (by rw [dsts_cons]; exact fun i hi => List.mem_append_right _ hi))) (m2.trans hm')
    rw [oEl_eq] at h
    split at h
    · rename_i hg
      have hw : Region.wanted o (yielded ops a.tmps) = true := by simp [Region.wanted, hg]
      rw [if_pos hw]; exact go h
    · rename_i g hg
      rcases wantK_ok hg hB ht h hr with ⟨hw, h⟩ | ⟨hw, h⟩
      · rw [if_pos hw]; exact go h
      · rw [if_neg (by rw [hw]; simp)]
        refine ⟨fun _ _ => trivial, ?_⟩
        obtain ⟨t', e, ht'⟩ := putK_ok (x := undef) (k := fun t => evOps P X base rec ops.toList l t H nx) (hB o hmem) ht (v := unit) (.tuple _ _ .nil)
        rw [e] at h
        exact ih ι t' H nx _ w r ht' hst h hr Q fun a2 w2 ι2 t2 H2 nx2 e s2 st2 tr2 k2 m2 =>
          hQ a2 w2 ι2 t2 H2 nx2 e s2 st2 tr2 (((put_keeps a o undef).mono (by rw [dsts_cons]; exact fun i hi => List.mem_append_left _ hi)).trans (k2.mono (by rw [dsts_cons]; exact fun i hi => List.mem_append_right _ hi))) (m2.trans (put_defers ..))
end Go.Abs
namespace Go.Abs
variable {P : Program} {X : Orc} {gs base n : Nat} {ι : Inj} {H : Hp} {nx : Nat}
/-! ### What a function hands back -/
def resS (tmps : Array Value) : ResultVar → Sem Value
  | .tmp t => pure (tmps.getD t Go.undef)
  | .cell a t => do loadVar t (← asAddr (tmps.getD a Go.undef))
theorem resV_ok {w : World} {t : Tm} {tmps : Array Value} (hst : St gs base ι H nx w.heap) (ht : TR ι n t tmps) {r : ResultVar} (hB : resB n r = true) {v : AV} (h : resV P t H r = some v) :
    ∃ x, VR ι v x ∧ (resS tmps r).run P w = .ok x w := by
  cases r with
  | tmp i =>
    cases h
    obtain ⟨x, hx, hv⟩ := ht.val i (by simpa [resB] using hB)
    refine ⟨x, hv, ?_⟩
    simp [resS, Array.getD_eq_getD_getElem?, hx]
  | cell a ty =>
    obtain ⟨x, hx, hv⟩ := ht.val a (by simpa [resB] using hB)
    simp only [resV, onPtr_eq] at h
    split at h
    · rename_i b p e
      rw [e] at hv
      obtain ⟨m, hm, hs, rfl⟩ := hv.ptr_inv
      rw [onCellsOb_eq] at h
      split at h
      · rename_i c k el ex hr
        obtain ⟨cs, fz, hh, hc⟩ := hst.cells hm hr
        obtain ⟨y, hy, hrun⟩ := readAt_ok hh hc hs h
        refine ⟨y, hy, ?_⟩
        simp [resS, Array.getD_eq_getD_getElem?, hx, asAddr, hrun]
      · cases h
    · cases h
theorem resultsL_ok {w : World} {t : Tm} {tmps : Array Value} (hst : St gs base ι H nx w.heap) (ht : TR ι n t tmps) : ∀ {rs : List ResultVar}, rs.all (resB n) = true → ∀ {l : List AV}, results P t H rs = some l →
    ∃ l', VRs ι l l' ∧ (rs.mapM (resS tmps)).run P w = .ok l' w
  | [], _, l, h => by cases h; exact ⟨[], .nil, by simp⟩
  | r :: rs, hB, l, h => by
    simp only [List.all_cons, Bool.and_eq_true] at hB
    change oEl (resV P t H r) none (fun v => oEl (results P t H rs) none fun l => fAV v fun v => some (v :: l)) = some l at h
    rw [oEl_eq] at h
    split at h
    · cases h
    rename_i v hv
    rw [oEl_eq] at h
    split at h
    · cases h
    rename_i l1 hl1
    rw [fAV_eq] at h; cases h
    obtain ⟨x, hx, hrun⟩ := resV_ok hst ht hB.1 hv
    obtain ⟨l', hl', hrun'⟩ := resultsL_ok hst ht hB.2 hl1
    refine ⟨x :: l', .cons _ _ _ _ hx hl', ?_⟩
    rw [List.mapM_cons, Sem.run_bind, hrun]
    simp only [Result.andThen_ok, Sem.run_bind, hrun', Sem.run_pure]
theorem results_ok {w : World} {t : Tm} {tmps : Array Value} (hst : St gs base ι H nx w.heap) (ht : TR ι n t tmps) {fn : Func} (hB : allL (resB n) fn.results.toList = true) {l : List AV} (h : results P t H fn.results.toList = some l) :
    ∃ x, VR ι (oneOr l) x ∧ (Go.results fn tmps).run P w = .ok x w := by
  rw [allL_eq] at hB
  obtain ⟨l', hl', hrun⟩ := resultsL_ok hst ht hB h
  have : (Go.results fn tmps).run P w = .ok (if h : l'.toArray.size = 1 then l'.toArray[0] else .tuple l'.toArray) w := by
    have e : Go.results fn tmps = (do let vs ← fn.results.mapM (resS tmps); pure (if h : vs.size = 1 then vs[0] else .tuple vs)) := rfl
    rw [e, Array.mapM_eq_mapM_toList]
    simp only [Sem.run_bind, Sem.run_map, hrun, Result.andThen_ok, Sem.run_pure]
  refine ⟨_, ?_, this⟩
  cases hl' with
  | nil => exact .tuple _ _ .nil
  | cons v x l l' hv ht' =>
    cases ht' with
    | nil => exact hv
    | cons v' x' l l' hv' ht' =>
      refine .tuple _ _ ?_
      exact .cons _ _ _ _ hv (.cons _ _ _ _ hv' ht')
/-! ### The marks are taken -/
theorem St.off {w : World} (h : St gs base ι H nx w.heap) {c : Nat} (hc : ¬ Live ι H nx c) (o : Obj) : St gs base ι H nx (World.setB w c o).heap := by
  refine ⟨h.glob, h.lim, h.low, h.fresh, h.dead, fun b m hb => ?_, fun b hb hl => ?_, h.inj, h.sep⟩
  · show m.c < (w.heap.setIfInBounds c o).size
    rw [Array.size_setIfInBounds]; exact h.old b m hb
  · obtain ⟨m, e, r⟩ := h.obs b hb hl
    refine ⟨m, e, ?_⟩
    have hne : c ≠ m.c := fun hc' => hc ⟨b, m, hb, e, hc'.symm, hl⟩
    show ObR gs ι m (row H b) (w.heap.setIfInBounds c o)[m.c]?
    rw [Array.getElem?_setIfInBounds_ne hne]; exact r
theorem Stp.off {ι' : Inj} {H' : Hp} {nx' : Nat} {w w' : World} (h : Stp base ι H nx w ι' H' nx' w') {c : Nat} (hc : w.heap.size ≤ c) (o : Obj) : Stp base ι H nx w ι' H' nx' (World.setB w' c o) := by
  refine ⟨h.ext, ?_, h.up, fun d hd hl => ?_, h.live, h.os, h.output, h.tape, h.keep, fun b k i j hb hr => ⟨(h.one b k i j hb hr).1, fun mm hm hs => ?_⟩⟩
  · show _ ≤ (w'.heap.setIfInBounds c o).size
    rw [Array.size_setIfInBounds]; exact h.size
  · show (w'.heap.setIfInBounds c o)[d]? = _
    rw [Array.getElem?_setIfInBounds_ne (by omega)]; exact h.same d hd hl
  · show (w'.heap.setIfInBounds c o)[mm.c]? = _
    rw [Array.getElem?_setIfInBounds_ne (by omega)]; exact (h.one b k i j hb hr).2 mm hm hs
theorem run_take {w : World} {c : Nat} (h : w.heap[c]? = some (.deferred (some []))) : (Instr.takeDeferred c).run P w = .ok [] (World.setB w c (.deferred none)) := by
  have e := setObj_ok (P := P) (o := .deferred none) h (by simp)
  have g : (getObj c).run P w = .ok (.deferred (some [])) w := by simp [getObj, Sem.run, h]
  simp only [Instr.takeDeferred, Sem.run_bind, g, Result.andThen_ok, e, Sem.run_pure]
theorem leaves_marks {F : Fence} {k : Nat} {fn : Func} {tmps : Array Value} {R : Ending → World → Prop} {w : World} : ∀ (ds : List Deferred) {ι' : Inj} {H' : Hp} {nx' : Nat} {w' : World}, Marks w.heap.size ι' H' nx' w' ds →
    Stp base ι H nx w ι' H' nx' w' → St gs base ι' H' nx' w'.heap → (∀ w'', Stp base ι H nx w ι' H' nx' w'' → St gs base ι' H' nx' w''.heap → ∃ v, (Go.results fn tmps).run P w'' = .ok v w'' ∧ R (.returned v) w'') →
      LeavesInM F k P fn tmps R ds .returning w'
  | [], ι', H', nx', w', _, hs, hst, hR => hR w' hs hst
  | d :: ds, ι', H', nx', w', hm, hs, hst, hR => by
    obtain ⟨c, h1, h2, h3, h4, h5⟩ := hm.all d (List.mem_cons_self ..)
    refine ⟨by simp, .inl ⟨c, _, h1, run_take h4, ?_⟩⟩
    have hap := List.pairwise_cons.1 hm.apart
    refine leaves_marks ds ⟨fun e he => ?_, hap.2⟩ (hs.off h2 _) (hst.off h5 _) hR
    obtain ⟨c', k1, k2, k3, k4, k5⟩ := hm.all e (List.mem_cons_of_mem _ he)
    have hne : c ≠ c' := fun hc => hap.1 e he (by rw [h1, k1, hc])
    refine ⟨c', k1, k2, ?_, ?_, k5⟩
    · show _ < (w'.heap.setIfInBounds c _).size
      rw [Array.size_setIfInBounds]; exact k3
    · show (w'.heap.setIfInBounds c _)[c']? = _
      rw [Array.getElem?_setIfInBounds_ne hne]; exact k4
/-! ### A function -/
theorem setArgs_eq (l : List AV) : ∀ (o : Nat) (t : Tm) (i : Nat), i < 512 → o + l.length ≤ 512 → get3 (setArgs l o t) (p3 i) = if o ≤ i then (match l[i - o]? with | some v => v | none => get3 t (p3 i)) else get3 t (p3 i) := by
  induction l with
  | nil => intro o t i _ _; simp [setArgs]
  | cons v l ih =>
    intro o t i hi ho
    change get3 (fN8 (put3 t (p3 o) v) fun t => setArgs l (Nat.succ o) t) (p3 i) = _
    simp only [List.length_cons] at ho
    rw [fN8_eq, ih (o + 1) _ i hi (by omega)]
    by_cases h1 : o + 1 ≤ i
    · rw [if_pos h1, if_pos (by omega)]
      have : i - o = (i - (o + 1)) + 1 := by omega
      rw [this, List.getElem?_cons_succ]
      rw [get3_put_ne _ _ (fun he => by have := p3_inj (by omega) hi he; omega)]
    · rw [if_neg h1]
      by_cases h2 : o ≤ i
      · have : o = i := by omega
        subst this
        rw [if_pos h2]
        simp [get3_put]
      · rw [if_neg h2, get3_put_ne _ _ (fun he => by have := p3_inj (by omega) hi he; omega)]
theorem VR.unit_undef (ι : Inj) : VR ι unit Go.undef := .tuple _ _ .nil
theorem enter_tr {args : List AV} {args' : Array Value} (ha : VRs ι args args'.toList) (hn : n ≤ 512) (hl : args.length ≤ n) : TR ι n (setArgs args 0 tms) (args' ++ Array.replicate (n - args'.size) Go.undef) := by
  have hsz : args.length = args'.size := by simpa using ha.length
  refine ⟨by simp; omega, hn, fun i hi => ?_⟩
  rw [setArgs_eq args 0 tms i (by omega) (by omega)]
  simp only [Nat.zero_le, if_true, Nat.sub_zero]
  by_cases h : i < args.length
  · obtain ⟨x, hx, hv⟩ := ha.get i args[i] (by simp [h])
    refine ⟨x, ?_, by simpa [h] using hv⟩
    rw [Array.getElem?_append_left (by omega)]
    rw [← Array.getElem?_toList]; exact hx
  · have h1 : args[i]? = none := by simp; omega
    rw [h1]
    refine ⟨Go.undef, ?_, ?_⟩
    · rw [Array.getElem?_append_right (by omega)]
      rw [Array.getElem?_replicate]
      rw [if_pos (by omega)]
    · have : get3 tms (p3 i) = unit := get3_all _ _
      rw [this]; exact VR.unit_undef ι
/-- what is known behind a call -/
def Back (gs base : Nat) (ι : Inj) (H : Hp) (nx : Nat) (w : World) (v : AV) (H' : Hp) (nx' : Nat) (e : Ending) (w' : World) : Prop :=
  ∃ x ι', e = .returned x ∧ VR ι' v x ∧ Stp base ι H nx w ι' H' nx' w' ∧ St gs base ι' H' nx' w'.heap
theorem callF_ok {rec : Cd} (hrec : CdOk P.globals.size P rec) {g : FuncId} {fn : Func} (hf : P.funcs[g]? = some fn) {args : List AV} {args' : Array Value} {w : World} {rdc : Option Nat} {m : Nat} (ha : VRs ι args args'.toList)
    (hst : St P.globals.size base ι H nx w.heap) {v : AV} {H' : Hp} {nx' : Nat} (h : callF P base rec args H nx fn = .val v H' nx') :
    fn.body.isNone = false ∧ CallsIn (FW rdc) m P g args' w (Back P.globals.size base ι H nx w v H' nx') := by
  rw [callF, oEl_eq] at h
  split at h
  · cases h
  rename_i c hc
  refine ⟨by simp [hc], ?_⟩
  rw [bEl_eq] at h
  split at h
  case isFalse => cases h
  rename_i hB
  rw [bEl_eq] at h
  split at h
  case isFalse => cases h
  rename_i hle
  rw [fN8_eq] at h
  have hle : args.length ≤ fn.ntmps := by rw [len_eq] at hle; exact Nat.le_of_ble_eq_true hle
  unfold funcB at hB
  rw [bEl_eq] at hB
  split at hB
  case isFalse => cases hB
  rename_i h1
  rw [bEl_eq] at hB
  split at hB
  case isFalse => cases hB
  rename_i h2
  have h3 := hB
  have h1 : fn.ntmps ≤ 512 := Nat.le_of_ble_eq_true h1
  have ht := enter_tr (n := fn.ntmps) ha h1 hle
  refine FW_calls (rd := none) (callsIn_of_wp_marks hf hc trivial ?_)
  have hnf : ∀ k, rec base none c (setArgs args 0 tms) H nx ≠ .fail k := by
    intro k e; rw [e] at h; cases h
  refine wpIn_mono (hrec base none c _ H nx fn.ntmps m ι w { tmps := args' ++ Array.replicate (fn.ntmps - args'.size) Go.undef, defers := [] } none hnf h2 ht hst trivial) ?_
  rintro e a' w' ⟨t1, H1, nx1, ι1, hfit, hg⟩
  obtain ⟨ds, hds, hm⟩ := hg.marks
  rw [List.append_nil] at hds
  have key : ∀ {r : R} (hr : rec base none c (setArgs args 0 tms) H nx = r), fin P fn.results.toList t1 H1 nx1 = .val v H' nx' → LeavesInM (FW none) m P fn a'.tmps (Back P.globals.size base ι H nx w v H' nx') a'.defers .returning w' := by
    intro r _ hfin
    rw [fin, oEl_eq] at hfin
    split at hfin
    · cases hfin
    rename_i l hl
    cases hfin
    rw [hds]
    refine leaves_marks (gs := P.globals.size) ds hm hg.stp hg.st fun w'' hs hst'' => ?_
    obtain ⟨x, hx, hrun⟩ := results_ok hst'' hg.tr h3 hl
    exact ⟨x, hrun, x, ι1, rfl, hx, hs, hst''⟩
  generalize hr : rec base none c (setArgs args 0 tms) H nx = r at h hfit
  cases r with
  | fail k => exact hfit.elim
  | norm t h' k =>
    obtain ⟨rfl, rfl, rfl, rfl⟩ := hfit
    exact key hr h
  | ret t h' k =>
    obtain ⟨rfl, rfl, rfl, rfl⟩ := hfit
    exact key hr h
  | exit id t h' k => cases h
end Go.Abs
namespace Go.Abs
variable {P : Program} {X : Orc} {gs base n : Nat} {ι : Inj} {H : Hp} {nx : Nat}
theorem St.loop {w : World} (h : St gs base ι H nx w.heap) {l : Nat} {mm : Im} (hm : ι l = some mm) {st : Nat} {c : Option Code} {tm : Tm} {ps : Array Tmp} {asg body : Code} (hr : row H l = .loop st c tm ps asg body) :
    ∃ r : Loop, w.heap[mm.c]? = some (.loop r) ∧ (Instr.getLoop mm.c).run P w = .ok r w ∧ LoopR st r.state ∧ r.pending = c ∧ r.params = ps ∧ r.assign = asg ∧ r.body = body ∧
      ∃ n, TR ι n tm r.tmps ∧ codeB gs n asg = true ∧ codeB gs n body = true ∧ allL (fun d => Nat.blt d n) ps.toList = true ∧ ∀ c', c = some c' → c' = .ret ∨ ∃ id, c' = .exit id := by
  obtain ⟨r, hh, h1, h2, h3, h4, h5, h6⟩ := h.ob hm hr rfl
  refine ⟨r, hh, ?_, h1, h2, h3, h4, h5, h6⟩
  have g := getObj_ok (P := P) hh (fun _ _ _ => by simp)
  simp only [Instr.getLoop, Sem.run_bind, g, Result.andThen_ok, Sem.run_pure]
theorem LoopR.zero {s : LoopState} (h : LoopR 0 s) : s = .ready := h
/-- yield's arguments go into the loop's temporaries -/
theorem setPs_ok : ∀ (ps : List Tmp) (args : List AV) (args' : List Value) (t t' : Tm) (a : Array Value), ps.all (fun d => Nat.blt d n) = true → VRs ι args args' → TR ι n t a → setPs ps args t = some t' →
    ps.length = args'.length ∧ TR ι n t' ((ps.zip args').foldl (fun tmps (t, a) => tmps.setIfInBounds t a) a)
  | [], args, args', t, t', a, _, ha, ht, h => by
    change lEl args (some t) (fun _ _ => none) = some t' at h
    rw [lEl_eq] at h
    cases ha with
    | nil => cases h; exact ⟨rfl, ht⟩
    | cons => cases h
  | d :: ps, args, args', t, t', a, hB, ha, ht, h => by
    change lEl args none (fun v vs => fN8 (put3 t (p3 d) v) fun t => setPs ps vs t) = some t' at h
    rw [lEl_eq] at h
    cases ha with
    | nil => cases h
    | cons v x l l' hv hl =>
      simp only [fN8_eq] at h
      simp only [List.all_cons, Bool.and_eq_true] at hB
      obtain ⟨h1, h2⟩ := setPs_ok ps l l' _ t' (a.setIfInBounds d x) hB.2 hl (ht.put (by simpa using hB.1) hv) h
      exact ⟨by simp [h1], by simpa using h2⟩
/-- the loop's record is set -/
theorem rdSet_ok {w : World} (hst : St gs base ι H nx w.heap) {l : Nat} {mm : Im} (hm : ι l = some mm) {st st' : Nat} {jump : Option Code} {tm : Tm} {ps : Array Tmp} {asg body : Code} {c : Option Code} (hr : row H l = .loop st' c tm ps asg body)
    {v v' : AV} {H' : Hp} {nx' : Nat} (h : write base (.loop st jump tm ps asg body) l v H nx = .val v' H' nx') {s : LoopState} (hs : LoopR st s) (hj : ∀ c', jump = some c' → c' = .ret ∨ ∃ id, c' = .exit id) :
    ∃ r : Loop, (Instr.getLoop mm.c).run P w = .ok r w ∧ LoopR st' r.state ∧ r.pending = c ∧ v' = v ∧ (setObj mm.c (.loop { r with state := s, pending := jump })).run P w = .ok () (World.setB w mm.c (.loop { r with state := s, pending := jump })) ∧
      Stp base ι H nx w ι H' nx' (World.setB w mm.c (.loop { r with state := s, pending := jump })) ∧ St gs base ι H' nx' (World.setB w mm.c (.loop { r with state := s, pending := jump })).heap := by
  obtain ⟨r, hh, hg, h1, h2, h3, h4, h5, k, h6, h7, h8, h9, _⟩ := hst.loop (P := P) hm hr
  obtain ⟨e, s1, s2⟩ := write_ok hst hm (by rw [hr]; rfl) (ob := .loop st jump tm ps asg body) (o := .loop { r with state := s, pending := jump })
    ⟨_, rfl, hs, rfl, h3, h4, h5, k, h6, h7, h8, h9, hj⟩ h
  exact ⟨r, hg, h1, h2, e, setObj_ok hh (fun _ _ _ => by simp), s1, s2⟩
theorem endRound_ok {w : World} (hst : St gs base ι H nx w.heap) {l : Nat} {mm : Im} (hm : ι l = some mm) {st : Nat} {jump : Option Code} {v v' : AV} {H' : Hp} {nx' : Nat} (h : rdSet st jump v base l H nx = .val v' H' nx')
    (hs : LoopR st (if jump.isNone then .ready else .done)) (hj : ∀ c', jump = some c' → c' = .ret ∨ ∃ id, c' = .exit id) :
    v' = v ∧ ∃ w', (Instr.endRound mm.c jump).run P w = .ok (.bool jump.isNone) w' ∧ Stp base ι H nx w ι H' nx' w' ∧ St gs base ι H' nx' w'.heap := by
  rw [rdSet, onLoopOb_eq] at h
  split at h
  · rename_i st' c tm ps asg body hr
    obtain ⟨r, hg, _, _, e, hset, s1, s2⟩ := rdSet_ok (P := P) hst hm hr h hs hj
    refine ⟨e, _, ?_, s1, s2⟩
    simp only [Instr.endRound, Sem.run_bind, hg, Result.andThen_ok, hset, Sem.run_pure]
  · cases h
/-- behind a round's body -/
theorem roundPost_ok {w w' : World} {l : Nat} {mm : Im} {ι' : Inj} (hm : ι' l = some mm) {r : R} {e : Exit} {a' : Act} {t' : Tm} {H1 : Hp} {nx1 : Nat} {v : AV} {H' : Hp} {nx' : Nat} (hfit : Fits r e t' H1 nx1)
    (hs : Stp base ι H nx w ι' H1 nx1 w') (hst : St gs base ι' H1 nx1 w'.heap) (h : rdEnd base l r = .val v H' nx') : roundPost P mm.c (Back gs base ι H nx w v H' nx') e a' w' := by
  cases r with
  | fail k => exact hfit.elim
  | norm t h1 k =>
    obtain ⟨rfl, rfl, rfl, rfl⟩ := hfit
    change rdSet 0 none (.bool true) base l _ _ = _ at h
    obtain ⟨rfl, w2, hrun, s1, s2⟩ := endRound_ok (P := P) hst hm h rfl (by simp)
    exact ⟨_, w2, hrun, _, ι', rfl, .bool _, hs.trans s1, s2⟩
  | exit id t h1 k =>
    obtain ⟨rfl, rfl, rfl, rfl⟩ := hfit
    change rdSet 2 (some (.exit id)) (.bool false) base l _ _ = _ at h
    obtain ⟨rfl, w2, hrun, s1, s2⟩ := endRound_ok (P := P) hst hm h rfl (by rintro c' ⟨⟩; exact .inr ⟨_, rfl⟩)
    exact ⟨_, w2, hrun, _, ι', rfl, .bool _, hs.trans s1, s2⟩
  | ret t h1 k =>
    obtain ⟨rfl, rfl, rfl, rfl⟩ := hfit
    change rdSet 2 (some .ret) (.bool false) base l _ _ = _ at h
    obtain ⟨rfl, w2, hrun, s1, s2⟩ := endRound_ok (P := P) hst hm h rfl (by rintro c' ⟨⟩; exact .inl rfl)
    exact ⟨_, w2, hrun, _, ι', rfl, .bool _, hs.trans s1, s2⟩
/-- a call of yield -/
theorem yield_ok {rec : Cd} (hrec : CdOk gs P rec) {args : List AV} {args' : Array Value} {w : World} {rdc : Option Nat} {m : Nat} {l : Nat} {mm : Im} (hm : ι l = some mm) (ha : VRs ι args args'.toList)
    (hst : St gs base ι H nx w.heap) {v : AV} {H' : Hp} {nx' : Nat} (h : yieldK base rec args l H nx = .val v H' nx') :
    ∃ f tmps asg body, (Instr.yield mm.c args').run P w = .ok (.round mm.c f tmps asg body) w ∧ RoundIn (FW rdc) m P mm.c f tmps asg body w (Back gs base ι H nx w v H' nx') := by
  rw [yieldK, onLoopOb_eq] at h
  split at h
  case h_2 => cases h
  rename_i st c tm ps asg body hr
  rw [nEl_eq] at h
  split at h
  case h_2 => cases h
  rw [oEl_eq] at h
  split at h
  · cases h
  rename_i t1 ht1
  obtain ⟨r, hh, hg, h1, h2, rfl, rfl, rfl, n, htr, hBa, hBb, hps, _⟩ := hst.loop (P := P) hm hr
  rw [allL_eq] at hps
  obtain ⟨hlen, htr1⟩ := setPs_ok r.params.toList args args'.toList tm t1 r.tmps hps ha htr ht1
  refine ⟨r.fn, (r.params.zip args').foldl (fun tmps (x : Tmp × Value) => tmps.setIfInBounds x.1 x.2) r.tmps, r.assign, r.body, ?_, roundIn_of_wpIn trivial ?_⟩
  · have hsz : args'.size = r.params.size := by simpa using hlen.symm
    simp only [Instr.yield, Sem.run_bind, hg, Result.andThen_ok, hsz, ne_eq, not_true_eq_false, if_false, Sem.run_pure]
  · have hz : (r.params.zip args').foldl (fun tmps (x : Tmp × Value) => tmps.setIfInBounds x.1 x.2) r.tmps = (r.params.toList.zip args'.toList).foldl (fun tmps (x : Tmp × Value) => tmps.setIfInBounds x.1 x.2) r.tmps := by
      rw [← Array.foldl_toList, Array.toList_zip]
    have hnf : ∀ k, rec base (some l) r.assign t1 H nx ≠ .fail k := by
      intro k e; rw [e] at h; cases h
    rw [FW_in]
    refine wpIn_mono (hrec base (some l) r.assign t1 H nx n m ι w { tmps := (r.params.zip args').foldl (fun tmps (x : Tmp × Value) => tmps.setIfInBounds x.1 x.2) r.tmps, defers := [] } (some mm.c) hnf hBa (by rw [hz]; exact htr1) hst ⟨mm, hm, rfl⟩) ?_
    rintro e a1 w1 ⟨t2, H1, nx1, ι1, hfit, hgo⟩
    generalize rec base (some l) r.assign t1 H nx = r1 at h hfit
    cases r1 with
    | fail k => exact hfit.elim
    | exit id t h1 k => cases h
    | ret t h1 k => cases h
    | norm t h1 k =>
      obtain ⟨rfl, rfl, rfl, rfl⟩ := hfit
      change yieldB base rec l r.body _ _ _ = _ at h
      rw [yieldB, onLoopOb_eq] at h
      split at h
      case h_2 => cases h
      rename_i st2 c2 tm2 ps2 asg2 body2 hr2
      rw [nEl_eq] at h
      split at h
      case h_2 => cases h
      rw [O.el_eq] at h
      split at h
      · cases h
      rename_i v3 H3 nx3 hw
      have hm1 := hgo.stp.ext _ _ hm
      obtain ⟨r2, hg2, hs2, hp2, rfl, hset, s1, s2⟩ := rdSet_ok (P := P) hgo.st hm1 hr2 hw (s := .busy) rfl (by
        obtain ⟨_, _, _, _, e, _, _, _, _, _, _, _, _, hc⟩ := hgo.st.loop (P := P) hm1 hr2
        exact hc)
      have hs2 : r2.state = .ready := hs2
      subst hp2
      refine ⟨World.setB w1 mm.c (.loop { r2 with state := .busy }), ?_, ?_⟩
      · simp only [Instr.beginRound, Sem.run_bind, hg2, Result.andThen_ok, hs2]
        have : (setObj mm.c (.loop { r2 with state := .busy })).run P w1 = .ok () (World.setB w1 mm.c (.loop { r2 with state := .busy })) := hset
        rw [this]; rfl
      · have hnf2 : ∀ k, rec base (some l) r.body t2 H3 nx3 ≠ .fail k := by
          intro k e; rw [e] at h; cases h
        refine wpIn_mono (hrec base (some l) r.body t2 H3 nx3 n m ι1 _ a1 (some mm.c) hnf2 hBb hgo.tr s2 ⟨mm, hm1, rfl⟩) ?_
        rintro e a2 w2 ⟨t4, H4, nx4, ι4, hfit4, hgo4⟩
        exact roundPost_ok (ι := ι) (hgo4.stp.ext _ _ hm1) hfit4 ((hgo.stp.trans s1).trans hgo4.stp) hgo4.st h
end Go.Abs
namespace Go.Abs
variable {P : Program} {X : Orc} {gs base n : Nat} {ι : Inj} {H : Hp} {nx : Nat}
/-- the oracles are right -/
def OrcOk (gs : Nat) (P : Program) (X : Orc) : Prop := ∀ g oc, X g = some oc → ∀ (base : Nat) (ι : Inj) (H : Hp) (nx : Nat) (w : World) (args : List AV) (args' : Array Value) (v : AV) (H' : Hp) (nx' : Nat),
  VRs ι args args'.toList → St gs base ι H nx w.heap → oc base args H nx = .val v H' nx' →
    (∃ x w' ι', (callFunc g args').run P w = .ok (.value x) w' ∧ VR ι' v x ∧ Stp base ι H nx w ι' H' nx' w' ∧ St gs base ι' H' nx' w'.heap) ∨
    ((callFunc g args').run P w = .ok (.enter g args') w ∧ ∀ m, CallsIn (FW none) m P g args' w (Back gs base ι H nx w v H' nx'))
/-- no function has the name of one that the model answers itself -/
def NamesOk (P : Program) : Prop := ∀ (g : FuncId) (fn : Func), P.funcs[g]? = some fn → (fn.name == "runtime.NumGoroutine") = false
theorem run_callFunc (hN : NamesOk P) {g : FuncId} {fn : Func} (hf : P.funcs[g]? = some fn) (hb : fn.body.isNone = false) (args : Array Value) (w : World) : (callFunc g args).run P w = .ok (.enter g args) w := by
  have hn := hN g fn hf
  simp only [callFunc, program, Sem.run_bind, Sem.run, Result.andThen_ok, hf, hn, hb, Bool.false_eq_true, if_false]
  rfl
theorem VRs.app3 {a b c : List AV} {a' b' c' : Array Value} (ha : VRs ι a a'.toList) (hb : VRs ι b b'.toList) (hc : VRs ι c c'.toList) : VRs ι (app a (app b c)) (a' ++ b' ++ c').toList := by
  rw [app_eq, app_eq, ← List.append_assoc, Array.toList_append, Array.toList_append]
  exact (ha.append hb).append hc
theorem VRs.map_opd {t : Tm} {a : Act} : ∀ {l : List Operand}, (∀ x ∈ l, VR ι (opd x t) (a.eval x)) → VRs ι (mapOpd t l) (l.map a.eval)
  | [], _ => .nil
  | x :: l, h => by
    rw [mapOpd_eq]
    have := VRs.map_opd (l := l) fun y hy => h y (List.mem_cons_of_mem _ hy)
    rw [mapOpd_eq] at this
    exact .cons _ _ _ _ (h x (List.mem_cons_self ..)) this
/-- a function value is called -/
theorem callV_ok {rec : Cd} (hN : NamesOk P) (hX : OrcOk P.globals.size P X) (hrec : CdOk P.globals.size P rec) {args : List AV} {args' : Array Value} {w : World} {rdc : Option Nat} {m : Nat} (ha : VRs ι args args'.toList)
    (hst : St P.globals.size base ι H nx w.heap) {f : AV} {f' : Value} (hf : VR ι f f') {v : AV} {H' : Hp} {nx' : Nat} (h : callV P X base rec args H nx f = .val v H' nx') :
    ∃ d, (Deferred.ofValue f' args').run P w = .ok d w ∧
      ((∃ x w' ι', (invoke d.target d.args).run P w = .ok (.value x) w' ∧ VR ι' v x ∧ Stp base ι H nx w ι' H' nx' w' ∧ St P.globals.size base ι' H' nx' w'.heap) ∨
       (∃ g as, (invoke d.target d.args).run P w = .ok (.enter g as) w ∧ CallsIn (FW rdc) m P g as w (Back P.globals.size base ι H nx w v H' nx')) ∨
       (∃ l g tmps asg body, (invoke d.target d.args).run P w = .ok (.round l g tmps asg body) w ∧ RoundIn (FW rdc) m P l g tmps asg body w (Back P.globals.size base ι H nx w v H' nx'))) := by
  rw [callV, onFunc_eq] at h
  split at h
  case h_2 => cases h
  rename_i fn first cap
  obtain ⟨fn', first', cap', rfl, hfn, h1, h2⟩ := hf.func_inv
  refine ⟨{ target := .fn fn' cap', args := first' ++ args' }, rfl, ?_⟩
  cases hfn with
  | func g =>
    have hargs : VRs ι (app first (app args cap)) (first' ++ args' ++ cap').toList := VRs.app3 h1 ha h2
    change oEl (X g) (oEl P.funcs[g]? (.fail 99) fun fn => callF P base rec (app first (app args cap)) H nx fn) (fun c => c base (app first (app args cap)) H nx) = _ at h
    rw [oEl_eq] at h
    split at h
    · rw [oEl_eq] at h
      split at h
      · cases h
      rename_i fn hfn
      obtain ⟨hb, hc⟩ := callF_ok (rdc := rdc) (m := m) hrec hfn hargs hst h
      exact .inr (.inl ⟨g, _, run_callFunc hN hfn hb _ w, hc⟩)
    · rename_i oc hoc
      rcases hX g oc hoc base ι H nx w _ _ v H' nx' hargs hst h with ⟨x, w', ι', hrun, hx, hs, hst'⟩ | ⟨hrun, hc⟩
      · exact .inl ⟨x, w', ι', hrun, hx, hs, hst'⟩
      · exact .inr (.inl ⟨g, _, hrun, FW_calls (hc m)⟩)
  | yield l mm hm =>
    change yieldK base rec (app first args) l H nx = _ at h
    have hargs : VRs ι (app first args) (first' ++ args').toList := by
      rw [app_eq, Array.toList_append]; exact h1.append ha
    obtain ⟨g, tmps, asg, body, hrun, hr⟩ := yield_ok (rdc := rdc) (m := m) hrec hm hargs hst h
    exact .inr (.inr ⟨_, g, tmps, asg, body, hrun, hr⟩)
theorem callsOk {rec : Cd} (hN : NamesOk P) (hX : OrcOk P.globals.size P X) (hrec : CdOk P.globals.size P rec) {rdc : Option Nat} {m : Nat} : CallsOk P X P.globals.size base rec rdc m := by
  intro o ι t H nx a w hO hst c g ho hcl v H' nx' hv next Q hn
  have hops : opnds o.op = g :: c.args.toList := by
    rw [ho]; show callL c = _; rw [callL, hcl]
  rw [hops] at hO
  have ha : VRs ι (mapOpd t c.args.toList) (c.args.map a.eval).toList := by
    rw [Array.toList_map]
    exact VRs.map_opd fun x hx => hO x (List.mem_cons_of_mem _ hx)
  obtain ⟨d, hres, hd⟩ := callV_ok (rdc := rdc) (m := m - 1) hN hX hrec ha hst (hO g (List.mem_cons_self ..)) hv
  have hrun : ∀ r, (invoke d.target d.args).run P w = r → (execOp a.eval o).run P w = r := by
    intro r hr
    have e : execOp a.eval o = (do let d ← resolve a.eval c o.type; invoke d.target d.args) := by simp only [execOp, ho]
    have e2 : resolve a.eval c o.type = Deferred.ofValue (a.eval g) (c.args.map a.eval) := by simp only [resolve, hcl]
    rw [e, e2, Sem.run_bind, hres, Result.andThen_ok, hr]
  have hnd : ∀ c, o.op ≠ .defer c := by intro c' e; rw [ho] at e; cases e
  rcases hd with ⟨x, w', ι', hr, hx, hs, hst'⟩ | ⟨f, as, hr, hc⟩ | ⟨l, f, tmps, asg, body, hr, hc⟩
  · exact wpIn_run hnd (by rw [hrun _ hr]; exact hn x ι' w' hx hs hst')
  · refine wpIn_run hnd ?_
    rw [hrun _ hr]
    refine ⟨by simp [FW, Fence.wide], hc.mono ?_⟩
    rintro e w' ⟨x, ι', rfl, hx, hs, hst'⟩
    exact hn x ι' w' hx hs hst'
  · refine wpIn_run hnd ?_
    rw [hrun _ hr]
    refine ⟨by simp [FW, Fence.wide], hc.mono ?_⟩
    rintro e w' ⟨x, ι', rfl, hx, hs, hst'⟩
    exact hn x ι' w' hx hs hst'
end Go.Abs
namespace Go.Abs
variable {P : Program} {X : Orc} {gs base n : Nat} {ι : Inj} {H : Hp} {nx : Nat}
theorem St.beside {w : World} (h : St gs base ι H nx w.heap) (o : Obj) : St gs base ι H nx (w.alloc o).heap := by
  refine ⟨h.glob, h.lim, h.low, h.fresh, h.dead, fun b m hb => ?_, fun b hb hl => ?_, h.inj, h.sep⟩
  · show m.c < (w.heap.push o).size
    rw [Array.size_push]; exact Nat.lt_succ_of_lt (h.old b m hb)
  · obtain ⟨m, e, r⟩ := h.obs b hb hl
    refine ⟨m, e, ?_⟩
    have := h.old b m e
    show ObR gs ι m (row H b) (w.heap.push o)[m.c]?
    rw [Array.getElem?_push_lt this, ← Array.getElem?_eq_getElem this]; exact r
theorem Stp.beside {w : World} (o : Obj) : Stp base ι H nx w ι H nx (w.alloc o) := by
  refine ⟨.refl _, ?_, Nat.le_refl _, fun c hc _ => ?_, fun _ _ h => h, rfl, rfl, rfl, fun _ _ => rfl, fun _ _ _ _ _ hr => ⟨hr, fun mm _ hs => ?_⟩⟩
  · show _ ≤ (w.heap.push o).size
    rw [Array.size_push]; omega
  · show (w.heap.push o)[c]? = _
    rw [Array.getElem?_push_lt hc, Array.getElem?_eq_getElem hc]
  · show (w.heap.push o)[mm.c]? = _
    rw [Array.getElem?_push_lt hs, ← Array.getElem?_eq_getElem hs]
theorem not_live_size {w : World} (h : St gs base ι H nx w.heap) : ¬ Live ι H nx w.heap.size := by
  rintro ⟨b, m, _, e, hc, _⟩
  have := h.old b m e; omega
/-- the loop's record is laid -/
theorem enterLoop_ok {w : World} {t : Tm} {tmps : Array Value} {ps : Array Tmp} {asg body : Code} {rd rdc : Option Nat} (hst : St gs base ι H nx w.heap) (ht : TR ι n t tmps) (hrd : RdR ι rd rdc)
    (hloop : ∀ l, rd = some l → ∃ st c tm ps asg body, row H l = .loop st c tm ps asg body) (hBa : codeB gs n asg = true) (hBb : codeB gs n body = true) (hBp : allL (fun d => Nat.blt d n) ps.toList = true)
    {v : AV} {H' : Hp} {nx' : Nat} (h : new (.loop 0 none t ps asg body) unit H nx = .val v H' nx') (fn : FuncId) :
    ∃ l mark w1 mm ι', (Instr.enterLoop fn tmps ps asg body rdc).run P w = .ok (l, mark) w1 ∧ ι' nx = some mm ∧ mm.c = l ∧ Stp base ι H nx w ι' H' nx' w1 ∧ St gs base ι' H' nx' w1.heap ∧ Marks w.heap.size ι' H' nx' w1 mark := by
  have lay : ∀ (w1 : World) (hst1 : St gs base ι H nx w1.heap) (d : Nat),
      ∃ mm ι', ι' nx = some mm ∧ mm.c = w1.heap.size ∧ Stp base ι H nx w1 ι' H' nx' (w1.alloc (.loop { state := .ready, pending := none, fn, tmps, params := ps, assign := asg, body, defers := d })) ∧
        St gs base ι' H' nx' (w1.alloc (.loop { state := .ready, pending := none, fn, tmps, params := ps, assign := asg, body, defers := d })).heap := by
    intro w1 hst1 d
    obtain ⟨_, s1, s2⟩ := new_ok hst1 h (m := ⟨w1.heap.size, 0, 0⟩) (o := .loop { state := .ready, pending := none, fn, tmps, params := ps, assign := asg, body, defers := d }) (w1 := w1.alloc _) rfl
      ⟨_, rfl, rfl, rfl, rfl, rfl, rfl, n, ht.mono (Inj.le_put (hst1.fresh nx (Nat.le_refl _))), hBa, hBb, hBp, by simp⟩ rfl rfl rfl rfl
    exact ⟨_, _, Inj.put_self _ _ _, rfl, s1, s2⟩
  match rd, rdc, hrd, hloop with
  | none, none, _, _ =>
    obtain ⟨mm, ι', h1, h2, s1, s2⟩ := lay (w.alloc (.deferred (some []))) (hst.beside _) w.heap.size
    refine ⟨_, [{ target := .collected w.heap.size, args := #[] }], _, mm, ι', rfl, h1, h2, (Stp.beside _).trans s1, s2, ?_⟩
    refine Marks.step (base := base) (ι := ι) (H := H) (nx := nx) (w := w.alloc (.deferred (some []))) ⟨fun d hd => ?_, by simp⟩ s1
    simp only [List.mem_singleton] at hd
    subst hd
    refine ⟨w.heap.size, rfl, Nat.le_refl _, ?_, ?_, not_live_size hst⟩
    · show _ < (w.heap.push _).size
      rw [Array.size_push]; omega
    · show (w.heap.push _)[w.heap.size]? = _
      rw [Array.getElem?_push_size]
  | some b, some c, ⟨m, hm, hc⟩, hloop =>
    obtain ⟨st, pd, tm, ps', asg', body', hr⟩ := hloop b rfl
    obtain ⟨r, _, hg, _⟩ := hst.loop (P := P) hm hr
    obtain ⟨mm, ι', h1, h2, s1, s2⟩ := lay w hst r.defers
    refine ⟨w.heap.size, [], _, mm, ι', ?_, h1, h2, s1, s2, .nil⟩
    subst hc
    simp only [Instr.enterLoop, Sem.run_bind, hg, Result.andThen_ok, Sem.run_pure]
    rfl
/-- a range over a function -/
theorem rfGo_ok {rec : Cd} (hN : NamesOk P) (hrec : CdOk P.globals.size P rec) {f : Operand} {ps : Array Tmp} {asg body : Code} {t : Tm} {w : World} {a : Act} {rd rdc : Option Nat} {m : Nat} {r : R}
    (hst : St P.globals.size base ι H nx w.heap) (ht : TR ι n t a.tmps) (hrd : RdR ι rd rdc) (hloop : ∀ l, rd = some l → ∃ st c tm ps asg body, row H l = .loop st c tm ps asg body)
    (hBf : opndB P.globals.size n f = true) (hBp : allL (fun d => Nat.blt d n) ps.toList = true) (hBa : codeB P.globals.size n asg = true) (hBb : codeB P.globals.size n body = true)
    (h : rfGo P X base rec rd f ps asg body t H nx = r) (hr : ∀ k, r ≠ .fail k) : (Code.rangeFunc f ps asg body).wpIn (FW rdc) m P (Post P.globals.size base n [] r ι H nx w a) a w := by
  rw [rfGo, O.el_eq] at h
  split at h
  · exact absurd h.symm (hr _)
  rename_i v0 H1 nx1 hnew
  refine wpIn_rangeFunc fun fn _ => ?_
  obtain ⟨l, mark, w1, mm, ι1, hent, hm, rfl, s1, st1, mk1⟩ := enterLoop_ok (P := P) hst ht hrd hloop hBa hBb hBp hnew fn
  have hf := (opd_ok ht hst.glob hBf).mono s1.ext
  -- the call
  rw [rfK, O.el_eq] at h
  split at h
  · exact absurd h.symm (hr _)
  rename_i v2 H2 nx2 hcall
  rw [callR, onFunc_eq] at hcall
  split at hcall
  case h_2 => cases hcall
  rename_i fa first cap e
  rw [e] at hf
  obtain ⟨fn', first', cap', ef, hfn, h1, h2⟩ := hf.func_inv
  cases hfn with
  | yield => cases hcall
  | func g =>
    change oEl P.funcs[g]? (.fail 99) (fun fn => callF P base rec (app first (app [.func (.yield nx) [] []] cap)) H1 nx1 fn) = _ at hcall
    rw [oEl_eq] at hcall
    split at hcall
    · cases hcall
    rename_i fnb hfnb
    have hy : VRs ι1 [.func (.yield nx) [] []] (#[.func (.yield mm.c) #[] #[]] : Array Value).toList := .cons _ _ _ _ (.func _ _ _ _ _ _ (.yield nx mm hm) .nil .nil) .nil
    obtain ⟨hb, hc⟩ := callF_ok (rdc := rdc) (m := m - 1) hrec hfnb (VRs.app3 h1 hy h2) st1 hcall
    refine ⟨mm.c, mark, w1, { target := .fn (.func g) cap', args := first' ++ #[.func (.yield mm.c) #[] #[]] }, w1, g, _, w1, by rw [FW_round]; exact hent, ?_, fun _ _ => trivial, run_callFunc hN hfnb hb _ w1, by simp [FW, Fence.wide], hc.mono ?_⟩
    · have e1 : resolve a.eval (rangeCall f mm.c) 0 = Deferred.ofValue (a.eval f) #[.func (.yield mm.c) #[] #[]] := by simp [resolve, Act.eval]
      rw [e1, ef]; rfl
    · rintro e w3 ⟨x, ι2, rfl, hx, s2, st2⟩
      have hm2 := s2.ext _ _ hm
      rw [onLoopOb_eq] at h
      split at h
      case h_2 => exact absurd h.symm (hr _)
      rename_i st c tm ps' asg' body' hrow
      rw [bEl_eq] at h
      split at h
      · exact absurd h.symm (hr _)
      rename_i hst1
      rw [O.el_eq] at h
      split at h
      · exact absurd h.symm (hr _)
      rename_i v4 H4 nx4 hw
      obtain ⟨r', hh, hg, hs, hpend, _, _, _, _, _, _, _, _, hpd⟩ := st2.loop (P := P) hm2 hrow
      obtain ⟨_, s3, st3⟩ := write_ok st2 hm2 (by rw [hrow]; rfl) (ob := .dead) (o := .loop { r' with state := .exhausted }) trivial hw
      have hbusy : (r'.state == LoopState.busy) = false := by
        match st, hs, hst1 with
        | 0, hs, _ => have : r'.state = .ready := hs; rw [this]; rfl
        | 1, _, hst1 => exact absurd rfl hst1
        | k + 2, hs, _ => have : r'.state = .done := hs; rw [this]; rfl
      have hend : (Instr.endLoop mm.c).run P w3 = .ok c (World.setB w3 mm.c (.loop { r' with state := .exhausted })) := by
        have e := setObj_ok (P := P) (o := .loop { r' with state := .exhausted }) hh (fun _ _ _ => by simp)
        simp only [Instr.endLoop, Sem.run_bind, hg, Result.andThen_ok, hbusy, Bool.false_eq_true, if_false, e, Sem.run_pure]
        rw [hpend]
      have hgo : Goes P.globals.size base n [] ι H nx w a ι2 t H4 nx4 { a with defers := mark ++ a.defers } (World.setB w3 mm.c (.loop { r' with state := .exhausted })) :=
        ⟨(s1.trans s2).trans s3, st3, ht.mono (s1.ext.trans s2.ext), ⟨rfl, fun _ _ => rfl⟩, mark, rfl, mk1.step (s2.trans s3)⟩
      refine ⟨c, _, hend, ?_⟩
      rw [oEl_eq] at h
      cases c with
      | none =>
        simp only at h
        subst h
        exact ⟨_, _, _, _, ⟨rfl, rfl, rfl, rfl⟩, hgo⟩
      | some c =>
        simp only at h
        have hBc : codeB P.globals.size n c = true := by
          rcases hpd c rfl with rfl | ⟨id, rfl⟩ <;> rfl
        have hwr : wrs c = [] := by
          rcases hpd c rfl with rfl | ⟨id, rfl⟩ <;> rfl
        have := hrec base rd c t H4 nx4 n m ι2 _ { a with defers := mark ++ a.defers } rdc (by intro k e; rw [e] at h; exact absurd h.symm (hr _)) hBc hgo.tr hgo.st (hrd.mono (s1.ext.trans s2.ext))
        rw [h, hwr] at this
        exact wpIn_mono this fun e a' w' hp => Post.trans hgo hp
theorem rfH_ok {rec : Cd} (hN : NamesOk P) (hrec : CdOk P.globals.size P rec) {f : Operand} {ps : Array Tmp} {asg body : Code} {t : Tm} {w : World} {a : Act} {rd rdc : Option Nat} {m : Nat} {r : R}
    (hst : St P.globals.size base ι H nx w.heap) (ht : TR ι n t a.tmps) (hrd : RdR ι rd rdc)
    (hBf : opndB P.globals.size n f = true) (hBp : allL (fun d => Nat.blt d n) ps.toList = true) (hBa : codeB P.globals.size n asg = true) (hBb : codeB P.globals.size n body = true)
    (h : rfH P X base rec rd f ps asg body t H nx = r) (hr : ∀ k, r ≠ .fail k) : (Code.rangeFunc f ps asg body).wpIn (FW rdc) m P (Post P.globals.size base n [] r ι H nx w a) a w := by
  rw [rfH, oEl_eq] at h
  cases rd with
  | none => exact rfGo_ok hN hrec hst ht hrd (by simp) hBf hBp hBa hBb h hr
  | some l =>
    simp only [onLoopOb_eq] at h
    split at h
    · rename_i st c tm ps' asg' body' hrow
      exact rfGo_ok hN hrec hst ht hrd (by rintro l' ⟨⟩; exact ⟨_, _, _, _, _, _, hrow⟩) hBf hBp hBa hBb h hr
    · exact absurd h.symm (hr _)
end Go.Abs
namespace Go.Abs
variable {P : Program} {F : Fence} {n : Nat}
theorem StepsIn.strip {I : Machine → Prop} {m m1 m' : Machine} (h : StepsIn I P m m') (hs : step P m = .next m1) (hne : m' ≠ m) : StepsIn I P m1 m' := by
  cases h with
  | refl => exact absurd rfl hne
  | head _ h1 h2 => rw [hs] at h1; cases h1; exact h2
theorem exitTo_length {id : Nat} : ∀ {k k' : List Item}, exitTo id k = some k' → k'.length ≤ k.length
  | [], _, h => by simp [exitTo] at h
  | x :: k, k', h => by
    cases x with
    | inBlock id' =>
      simp only [exitTo] at h
      split at h
      · cases h; simp
      · have := exitTo_length h; simp only [List.length_cons]; omega
    | _ => simp only [exitTo] at h; have := exitTo_length h; simp only [List.length_cons]; omega
theorem lone_todo {fr fr' : Frame} {cs cs' : List Frame} {w w' : World} (h : lone fr cs w = lone fr' cs' w') : fr = fr' := by
  have := congrArg (fun m : Machine => (m.gs[0]?).map (·.frame)) h
  simpa [lone] using this
/-- a round, and the loop again -/
theorem wpIn_loop_next {c : Code} {Q : Exit → Act → World → Prop} {a : Act} {w : World} (hQ : ∀ e a w, Q e a w → e = .normal ∨ (∃ id, e = .exit id) ∨ e = .ret)
    (h : c.wpIn F n P (Exit.then ((Code.loop c).wpIn F n P Q) Q) a w) : (Code.loop c).wpIn F n P Q a w := by
  intro b k cs hro hb hr
  obtain ⟨e, a₁, w₁, hq, harr⟩ := h b (.inLoop c :: k) cs hro hb hr
  have s0 : StepsIn (Machine.fenced P F) P (lone (b.atR a (.code (.loop c) :: k)) cs w) (lone (b.atR a (.code c :: .inLoop c :: k)) cs w) := .one (fenced_calm hb hr rfl) stepR_loop
  refine ?_
  cases e with
  | normal =>
    obtain ⟨e₂, a₂, w₂, hq₂, harr₂⟩ := hq b k cs hro hb hr
    refine ⟨e₂, a₂, w₂, hq₂, .of_steps (s0.trans (StepsIn.trans harr (.one (fenced_calm hb hr rfl) stepR_inLoop))) ?_⟩
    have st : ∀ {fr : Frame} {w' : World}, StepsIn (Machine.fenced P F) P (lone (b.atR a₁ (.code (.loop c) :: k)) cs w₁) (lone fr cs w') → fr ≠ b.atR a₁ (.code (.loop c) :: k) →
        StepsIn (Machine.fenced P F) P (lone (b.atR a₁ (.code c :: .inLoop c :: k)) cs w₁) (lone fr cs w') := fun h hne => StepsIn.strip h stepR_loop fun e => hne (lone_todo e)
    have hlen : ∀ {x : Act} {k' : List Item}, k'.length ≤ k.length → b.atR x k' ≠ b.atR a₁ (.code (.loop c) :: k) := fun hle e => by
      have := congrArg (fun f : Frame => f.todo.length) e
      simp [Frame.atR] at this; omega
    rcases hQ _ _ _ hq₂ with rfl | ⟨id, rfl⟩ | rfl
    · exact st harr₂ (hlen (Nat.le_refl _))
    · refine ⟨fun k' hk => st (harr₂.1 k' hk) (hlen (exitTo_length hk)), fun hr' hk => ?_⟩
      obtain ⟨k₁, h1, h2⟩ := harr₂.2 hr' hk
      exact ⟨k₁, h1, st h2 fun e => by have := congrArg Frame.todo e; simp [Frame.atR] at this⟩
    · refine ⟨fun hn => ?_, fun hr' => ?_⟩
      · obtain ⟨todo, hs⟩ := harr₂.1 hn
        exact ⟨todo, st hs fun e => by have := congrArg Frame.mode e; simp [Frame.atR] at this⟩
      · obtain ⟨k₁, hs⟩ := harr₂.2 hr'
        exact ⟨k₁, st hs fun e => by have := congrArg Frame.todo e; simp [Frame.atR] at this⟩
  | exit id => exact ⟨_, a₁, w₁, hq, .of_steps s0 (.pass (x := .inLoop c) rfl (fun _ _ => .inl (by simp)) harr)⟩
  | goto l => exact ⟨_, a₁, w₁, hq, .of_steps s0 (.pass (x := .inLoop c) rfl (fun _ _ => .inl (by simp)) harr)⟩
  | ret => exact ⟨_, a₁, w₁, hq, .of_steps s0 (.pass (x := .inLoop c) rfl (fun _ _ => .inl (by simp)) harr)⟩
  | panic ch => exact ⟨_, a₁, w₁, hq, .of_steps s0 (.pass (x := .inLoop c) rfl (fun _ _ => .inl (by simp)) harr)⟩
  | outgrown => exact ⟨_, a₁, w₁, hq, .of_steps s0 (.pass (x := .inLoop c) rfl (fun _ _ => .inl (by simp)) harr)⟩
theorem Post.exits {gs base n : Nat} {l : List Nat} {r : R} {ι : Inj} {H : Hp} {nx : Nat} {w : World} {a : Act} {e : Exit} {a' : Act} {w' : World} (h : Post gs base n l r ι H nx w a e a' w') : e = .normal ∨ (∃ id, e = .exit id) ∨ e = .ret := by
  obtain ⟨t, H1, nx1, ι1, hf, _⟩ := h
  cases r with
  | fail k => exact hf.elim
  | norm => exact .inl hf.1
  | exit id => exact .inr (.inl ⟨id, hf.1⟩)
  | ret => exact .inr (.inr hf.1)
end Go.Abs
