import Derived.Test.YtbnckdnnaoddfaaGreatDoorAbsD
set_option linter.all false
namespace Go.Abs
/-! ### Bits -/
theorem tb_eq (m i : Nat) : tb m i = m.testBit i := by
  have e : Nat.land (Nat.shiftRight m i) 1 = (m >>> i) % 2 := Nat.and_one_is_mod _
  have h2 : (m >>> i) % 2 < 2 := Nat.mod_lt _ (by decide)
  show Nat.beq (Nat.land (Nat.shiftRight m i) 1) 1 = (1 &&& (m >>> i) != 0)
  rw [e, Nat.and_comm, Nat.and_one_is_mod]
  generalize (m >>> i) % 2 = k at h2 ⊢
  match k, h2 with
  | 0, _ => rfl
  | 1, _ => rfl
theorem tb_lor (a b i : Nat) : tb (Nat.lor a b) i = (tb a i || tb b i) := by
  rw [tb_eq, tb_eq, tb_eq]; exact Nat.testBit_or _ _ _
theorem tb_shl (k i : Nat) : tb (Nat.shiftLeft 1 k) i = decide (k = i) := by
  rw [tb_eq]
  show (1 <<< k).testBit i = _
  rw [Nat.one_shiftLeft, Nat.testBit_two_pow]
theorem tb_all {i : Nat} (h : i < 128) : tb 340282366920938463463374607431768211455 i = true := by
  rw [tb_eq]
  have : (340282366920938463463374607431768211455 : Nat) = 2 ^ 128 - 1 := by decide
  rw [this, Nat.testBit_two_pow_sub_one]; simpa using h
theorem tb_zero (i : Nat) : tb 0 i = false := by rw [tb_eq]; simp
theorem rev_eq {α : Type} : ∀ (l a : List α), rev l a = l.reverse ++ a
  | [], a => rfl
  | x :: l, a => by
    show rev l (x :: a) = _
    rw [rev_eq l (x :: a)]; simp
/-! ### Masks -/
/-- an operation is behind another one by an edge -/
def Aft (o : Oper) (j : Nat) : Prop := ∃ e ∈ o.after.toList, bindsB e = true ∧ e.on = j
theorem maskOf_spec {ms : List Nat} {i : Nat} : ∀ {es : List Edge} {m : Nat}, maskOf ms i es = some m →
    (∀ e ∈ es, bindsB e = true → e.on < i ∧ ∃ m', ms[i - e.on - 1]? = some m') ∧
    ∀ j, tb m j = true ↔ ∃ e ∈ es, bindsB e = true ∧ (e.on = j ∨ ∃ m', ms[i - e.on - 1]? = some m' ∧ tb m' j = true)
  | [], m, h => by
    cases h
    exact ⟨by simp, fun j => by simp [tb_zero]⟩
  | e :: es, m, h => by
    change bEl (bindsB e) (bEl (Nat.blt e.on i) (oEl (nth ms (Nat.sub (Nat.sub i e.on) 1)) none fun m => oEl (maskOf ms i es) none fun n => some (Nat.lor (Nat.lor (Nat.shiftLeft 1 e.on) m) n)) none) (maskOf ms i es) = some m at h
    rw [bEl_eq] at h
    split at h
    · rename_i hb
      rw [bEl_eq] at h
      split at h
      case isFalse => cases h
      rename_i hlt
      have hlt : e.on < i := by simpa using hlt
      rw [oEl_eq, nth_eq] at h
      split at h
      · cases h
      rename_i m1 hm1
      have hm1 : ms[i - e.on - 1]? = some m1 := hm1
      rw [oEl_eq] at h
      split at h
      · cases h
      rename_i m2 hm2
      cases h
      obtain ⟨h1, h2⟩ := maskOf_spec hm2
      refine ⟨fun e' he hb' => ?_, fun j => ?_⟩
      · rcases List.mem_cons.1 he with rfl | he
        · exact ⟨hlt, m1, hm1⟩
        · exact h1 e' he hb'
      · rw [tb_lor, tb_lor, tb_shl]
        simp only [Bool.or_eq_true, decide_eq_true_eq, List.mem_cons, exists_eq_or_imp, hb, true_and, hm1, Option.some.injEq, exists_eq_left']
        rw [h2 j]
    · rename_i hb
      obtain ⟨h1, h2⟩ := maskOf_spec h
      refine ⟨fun e' he hb' => ?_, fun j => ?_⟩
      · rcases List.mem_cons.1 he with rfl | he
        · exact absurd hb' hb
        · exact h1 e' he hb'
      · rw [h2 j]
        simp [hb]
/-- masks: of each operation, those that are before it -/
structure MaskOk (l : List Oper) (ms : List Nat) : Prop where
  len : ms.length = l.length
  edge : ∀ (i : Nat) (o : Oper), l[i]? = some o → ∀ j, Aft o j → j < i
  mem : ∀ (i : Nat) (o : Oper) (m : Nat), l[i]? = some o → ms[i]? = some m → ∀ j, tb m j = true ↔ Aft o j ∨ ∃ k m', Aft o k ∧ ms[k]? = some m' ∧ tb m' j = true
theorem masksOf_spec : ∀ (l pre : List Oper) (ms r : List Nat), MaskOk pre ms.reverse → masksOf l ms pre.length = some r → MaskOk (pre ++ l) r.reverse
  | [], pre, ms, r, h, hr => by cases hr; simpa using h
  | o :: l, pre, ms, r, h, hr => by
    change oEl (maskOf ms pre.length o.after.toList) none (fun m => fNat m fun m => fNat (Nat.succ pre.length) fun j => masksOf l (m :: ms) j) = some r at hr
    rw [oEl_eq] at hr
    split at hr
    · cases hr
    rename_i m hm
    rw [fNat_eq, fNat_eq] at hr
    have hlen : ms.length = pre.length := by simpa using h.len
    obtain ⟨h1, h2⟩ := maskOf_spec hm
    have key : MaskOk (pre ++ [o]) (m :: ms).reverse := by
      have hrev : ∀ k, k < pre.length → ms[pre.length - k - 1]? = ms.reverse[k]? := fun k hk => by
        rw [List.getElem?_reverse (by omega)]
        congr 1; omega
      have hcons : (m :: ms).reverse = ms.reverse ++ [m] := by simp
      rw [hcons]
      refine ⟨by simp [hlen], fun i o' ho' j hj => ?_, fun i o' m' ho' hm' j => ?_⟩
      · rcases Nat.lt_or_ge i pre.length with hi | hi
        · rw [List.getElem?_append_left hi] at ho'
          exact h.edge i o' ho' j hj
        · rw [List.getElem?_append_right hi] at ho'
          have hi' : i - pre.length = 0 := by
            rcases Nat.eq_zero_or_pos (i - pre.length) with h0 | h0
            · exact h0
            · rw [List.getElem?_eq_none (by simp; omega)] at ho'; cases ho'
          rw [hi'] at ho'; cases ho'
          obtain ⟨e, he, hb, rfl⟩ := hj
          have := (h1 e he hb).1; omega
      · rcases Nat.lt_or_ge i pre.length with hi | hi
        · rw [List.getElem?_append_left hi] at ho'
          rw [List.getElem?_append_left (by simp; omega)] at hm'
          rw [h.mem i o' m' ho' hm' j]
          constructor
          · rintro (hj | ⟨k, mk, hk, hmk, hj⟩)
            · exact .inl hj
            · have := h.edge i o' ho' k hk
              exact .inr ⟨k, mk, hk, by rw [List.getElem?_append_left (by simp; omega)]; exact hmk, hj⟩
          · rintro (hj | ⟨k, mk, hk, hmk, hj⟩)
            · exact .inl hj
            · have := h.edge i o' ho' k hk
              rw [List.getElem?_append_left (by simp; omega)] at hmk
              exact .inr ⟨k, mk, hk, hmk, hj⟩
        · rw [List.getElem?_append_right hi] at ho'
          have hi' : i - pre.length = 0 := by
            rcases Nat.eq_zero_or_pos (i - pre.length) with h0 | h0
            · exact h0
            · rw [List.getElem?_eq_none (by simp; omega)] at ho'; cases ho'
          rw [hi'] at ho'; cases ho'
          have hi2 : i = pre.length := by omega
          subst hi2
          rw [List.getElem?_append_right (by simp; omega)] at hm'
          have : pre.length - ms.reverse.length = 0 := by simp; omega
          rw [this] at hm'; cases hm'
          rw [h2 j]
          constructor
          · rintro ⟨e, he, hb, hj⟩
            rcases hj with rfl | ⟨m', hm', hj⟩
            · exact .inl ⟨e, he, hb, rfl⟩
            · have hlt := (h1 e he hb).1
              refine .inr ⟨e.on, m', ⟨e, he, hb, rfl⟩, ?_, hj⟩
              rw [List.getElem?_append_left (by simp; omega), ← hrev _ hlt]; exact hm'
          · rintro (⟨e, he, hb, rfl⟩ | ⟨k, m', ⟨e, he, hb, rfl⟩, hm', hj⟩)
            · exact ⟨e, he, hb, .inl rfl⟩
            · have hlt := (h1 e he hb).1
              rw [List.getElem?_append_left (by simp; omega), ← hrev _ hlt] at hm'
              exact ⟨e, he, hb, .inr ⟨m', hm', hj⟩⟩
    have := masksOf_spec l (pre ++ [o]) (m :: ms) r key (by simpa using hr)
    simpa using this
theorem MaskOk.trans {l : List Oper} {ms : List Nat} (h : MaskOk l ms) : ∀ (i m k mk : Nat), ms[i]? = some m → ms[k]? = some mk → tb m k = true → ∀ j, tb mk j = true → tb m j = true := by
  intro i
  induction i using Nat.strongRecOn with
  | _ i ih =>
    intro m k mk hm hk hmk j hj
    have hi : i < l.length := by rw [← h.len]; exact (List.getElem?_eq_some_iff.1 hm).1
    obtain ⟨o, ho⟩ : ∃ o, l[i]? = some o := ⟨l[i], by simp [hi]⟩
    rw [h.mem i o m ho hm] at hmk ⊢
    rcases hmk with hmk | ⟨k', mk', ha, hk', hj'⟩
    · exact .inr ⟨k, mk, hmk, hk, hj⟩
    · exact .inr ⟨k', mk', ha, hk', ih k' (h.edge i o ho k' ha) mk' k mk hk' hk hj' j hj⟩
theorem MaskOk.lt {l : List Oper} {ms : List Nat} (h : MaskOk l ms) : ∀ (i m : Nat), ms[i]? = some m → ∀ j, tb m j = true → j < i := by
  intro i
  induction i using Nat.strongRecOn with
  | _ i ih =>
    intro m hm j hj
    have hi : i < l.length := by rw [← h.len]; exact (List.getElem?_eq_some_iff.1 hm).1
    obtain ⟨o, ho⟩ : ∃ o, l[i]? = some o := ⟨l[i], by simp [hi]⟩
    rw [h.mem i o m ho hm] at hj
    rcases hj with hj | ⟨k', mk', ha, hk', hj'⟩
    · exact h.edge i o ho j hj
    · have := h.edge i o ho k' ha
      have := ih k' this mk' hk' j hj'
      omega
/-- what is before an operation is in every set that holds what its edges lead to -/
theorem MaskOk.sub {l : List Oper} {ms : List Nat} (h : MaskOk l ms) {L : Nat → Bool} (hL : ∀ (i : Nat) (o : Oper), l[i]? = some o → L i = true → ∀ j, Aft o j → L j = true) {i m : Nat} {o : Oper} (ho : l[i]? = some o)
    (hi : ∀ j, Aft o j → L j = true) (hm : ms[i]? = some m) : ∀ j, tb m j = true → L j = true := by
  have all : ∀ k mk, ms[k]? = some mk → L k = true → ∀ j, tb mk j = true → L j = true := by
    intro k
    induction k using Nat.strongRecOn with
    | _ k ih =>
      intro mk hk hLk j hj
      have hk' : k < l.length := by rw [← h.len]; exact (List.getElem?_eq_some_iff.1 hk).1
      obtain ⟨ok, hok⟩ : ∃ o, l[k]? = some o := ⟨l[k], by simp [hk']⟩
      rw [h.mem k ok mk hok hk] at hj
      rcases hj with hj | ⟨k', mk', ha, hk', hj'⟩
      · exact hL k ok hok hLk j hj
      · exact ih k' (h.edge k ok hok k' ha) mk' hk' (hL k ok hok hLk k' ha) j hj'
  intro j hj
  rw [h.mem i o m ho hm] at hj
  rcases hj with hj | ⟨k', mk', ha, hk', hj'⟩
  · exact hi j hj
  · exact all k' mk' hk' (hi k' ha) j hj'
end Go.Abs
namespace Go.Abs
variable {K : Op → Kd} {base : Nat} {rec : Cd}
/-! ### Apart -/
theorem mem_tmpsOf {d : Nat} : ∀ {l : List Operand}, memN d (tmpsOf l) = true ↔ Operand.tmp d ∈ l
  | [] => by simp [memN, tmpsOf]
  | x :: l => by
    rw [memN_eq]
    have ih := mem_tmpsOf (d := d) (l := l)
    rw [memN_eq] at ih
    cases x with
    | tmp i =>
      show (i :: tmpsOf l).contains d = true ↔ _
      simp only [List.contains_cons, Bool.or_eq_true, List.mem_cons, Operand.tmp.injEq, ih, beq_iff_eq]
    | const v => show (tmpsOf l).contains d = true ↔ _; rw [ih]; simp
    | global v => show (tmpsOf l).contains d = true ↔ _; rw [ih]; simp
    | func v => show (tmpsOf l).contains d = true ↔ _; rw [ih]; simp
/-- an earlier one (number i) and a later one -/
structure Apart (m i : Nat) (o p : Oper) : Prop where
  fwd : ∀ d, p.dst = some d → Operand.tmp d ∈ opnds o.op → tb m i = true
  bwd : ∀ d, o.dst = some d → Operand.tmp d ∈ opnds p.op → tb m i = true
  ne : ∀ d, p.dst = some d → o.dst ≠ some d
theorem apartB_ok {m i : Nat} {o p : Oper} (h : apartB m i o p = true) : Apart m i o p := by
  rw [apartB, oEl_eq] at h
  cases hp : p.dst with
  | none =>
    rw [hp] at h
    simp only [oEl_eq] at h
    refine ⟨by simp [hp], fun d hd hm => ?_, by simp [hp]⟩
    rw [hd] at h
    simp only [bEl_eq, mem_tmpsOf.2 hm, if_true] at h
    exact h
  | some d =>
    rw [hp] at h
    simp only [band_eq, Bool.and_eq_true, bEl_eq, oEl_eq] at h
    obtain ⟨h1, h2⟩ := h
    refine ⟨fun d' hd hm => ?_, fun d' hd hm => ?_, fun d' hd hd' => ?_⟩
    · rw [hp] at hd; cases hd
      simpa [mem_tmpsOf.2 hm] using h1
    · rw [hd] at h2
      simp only at h2
      split at h2
      · cases h2
      · simpa [mem_tmpsOf.2 hm] using h2
    · rw [hp] at hd; cases hd
      rw [hd'] at h2
      simp at h2
theorem apartAll_ok {m : Nat} {o : Oper} : ∀ {l : List Oper} {i : Nat}, apartAll m o l i = true → ∀ k p, l[k]? = some p → Apart m (i + k) o p
  | [], _, _, k, p, hp => by simp at hp
  | q :: l, i, h, k, p, hp => by
    change bEl (apartB m i o q) (apartAll m o l (Nat.succ i)) false = true at h
    rw [bEl_eq] at h
    split at h
    case isFalse => cases h
    rename_i hq
    cases k with
    | zero => cases hp; exact apartB_ok hq
    | succ k =>
      have := apartAll_ok h k p (by simpa using hp)
      have e : i.succ + k = i + (k + 1) := by omega
      rw [e] at this; exact this
theorem temporaries_ok {all : List Oper} : ∀ {l : List Oper} {ms : List Nat} {i : Nat}, temporaries all l ms i = true → ms.length = l.length → ∀ k o m, l[k]? = some o → ms[k]? = some m →
    (∀ g, o.guard = some g → tb m g.1 = true) ∧ ∀ j p, j < i + k → all[j]? = some p → Apart m j o p
  | [], _, _, _, _, k, o, m, ho, _ => by simp at ho
  | q :: l, ms, i, h, hl, k, o, m, ho, hm => by
    change lEl ms false (fun m ms => bEl (guardOk m q) (bEl (apartAll m q (tke i all) 0) (temporaries all l ms (Nat.succ i)) false) false) = true at h
    cases ms with
    | nil => simp at hl
    | cons m0 ms =>
      simp only [lEl_eq, bEl_eq] at h
      split at h
      case isFalse => cases h
      rename_i hg
      split at h
      case isFalse => cases h
      rename_i ha
      cases k with
      | zero =>
        cases ho; cases hm
        refine ⟨fun g hg' => ?_, fun j p hj hp => ?_⟩
        · rw [guardOk, oEl_eq, hg'] at hg; exact hg
        · have := apartAll_ok ha j p (by rw [tke_eq, List.getElem?_take_of_lt (by omega)]; exact hp)
          rw [Nat.zero_add] at this; exact this
      | succ k =>
        have := temporaries_ok h (by simpa using hl) k o m (by simpa using ho) (by simpa using hm)
        have e : i.succ + k = i + (k + 1) := by omega
        rw [e] at this; exact this
/-- the plan of a region -/
structure Plan (l : List Oper) (ms : List Nat) : Prop where
  masks : MaskOk l ms
  guard : ∀ (i : Nat) (o : Oper) (m : Nat) (g : Nat × Bool), l[i]? = some o → ms[i]? = some m → o.guard = some g → tb m g.1 = true
  apart : ∀ (i j : Nat) (o p : Oper) (m : Nat), j < i → l[i]? = some o → ms[i]? = some m → l[j]? = some p → Apart m j o p
theorem planOf_ok {l : List Oper} {ms : List Nat} (h : planOf l = some ms) : Plan l ms := by
  rw [planOf, oEl_eq] at h
  split at h
  · cases h
  rename_i r hr
  rw [bEl_eq] at h
  split at h
  case isFalse => cases h
  rename_i ht
  cases h
  rw [rev_eq, List.append_nil] at ht ⊢
  have hM := masksOf_spec l [] [] r ⟨rfl, by simp, by simp⟩ hr
  rw [List.nil_append] at hM
  refine ⟨hM, fun i o m g ho hm hg => (temporaries_ok ht hM.len i o m ho hm).1 g hg, fun i j o p m hj ho hm hp => (temporaries_ok ht hM.len i o m ho hm).2 j p (by omega) hp⟩
/-! ### Rows that are laid -/
noncomputable def lay (p : Nat → Bool) (l : List Pd) (h : Hp) : Hp := l.foldl (fun h pd => if p pd.i then put6 h (p6 pd.id) pd.ob else h) h
theorem absorb_eq (m ab : Nat) : ∀ (l : List Pd) (h : Hp), absorb m ab l h = lay (fun i => tb m i && !tb ab i) l h
  | [], h => rfl
  | pd :: l, h => by
    change bEl (tb m pd.i) (bEl (tb ab pd.i) (absorb m ab l h) (fN8 (put6 h (p6 pd.id) pd.ob) fun h => absorb m ab l h)) (absorb m ab l h) = _
    rw [bEl_eq, bEl_eq, fN8_eq]
    have e : lay (fun i => tb m i && !tb ab i) (pd :: l) h = lay (fun i => tb m i && !tb ab i) l (if (tb m pd.i && !tb ab pd.i) = true then put6 h (p6 pd.id) pd.ob else h) := rfl
    rw [e, absorb_eq m ab l, absorb_eq m ab l]
    cases tb m pd.i <;> cases tb ab pd.i <;> rfl
theorem lay_congr {p q : Nat → Bool} : ∀ {l : List Pd} {h : Hp}, (∀ pd ∈ l, p pd.i = q pd.i) → lay p l h = lay q l h
  | [], _, _ => rfl
  | pd :: l, h, hh => by
    show lay p l (if p pd.i then _ else h) = lay q l (if q pd.i then _ else h)
    rw [hh pd (List.mem_cons_self ..)]
    exact lay_congr fun x hx => hh x (List.mem_cons_of_mem _ hx)
theorem lay_none {p : Nat → Bool} : ∀ {l : List Pd} {h : Hp}, (∀ pd ∈ l, p pd.i = false) → lay p l h = h
  | [], _, _ => rfl
  | pd :: l, h, hh => by
    show lay p l (if p pd.i then _ else h) = h
    rw [hh pd (List.mem_cons_self ..)]
    exact lay_none fun x hx => hh x (List.mem_cons_of_mem _ hx)
theorem lay_append {p : Nat → Bool} {l l' : List Pd} {h : Hp} : lay p (l ++ l') h = lay p l' (lay p l h) := by simp [lay, List.foldl_append]
theorem row_lay_ne {p : Nat → Bool} {b : Nat} (hb : b < 262144) : ∀ {l : List Pd} {h : Hp}, (∀ pd ∈ l, pd.id < 262144) → (∀ pd ∈ l, p pd.i = true → pd.id ≠ b) → row (lay p l h) b = row h b
  | [], _, _, _ => rfl
  | pd :: l, h, hid, hne => by
    show row (lay p l (if p pd.i then _ else h)) b = _
    rw [row_lay_ne hb (fun x hx => hid x (List.mem_cons_of_mem _ hx)) fun x hx => hne x (List.mem_cons_of_mem _ hx)]
    split
    · rename_i hp
      exact row_put_ne (hid pd (List.mem_cons_self ..)) hb (hne pd (List.mem_cons_self ..) hp)
    · rfl
theorem row_lay {p : Nat → Bool} : ∀ {l : List Pd} {h : Hp}, (∀ pd ∈ l, pd.id < 262144) → (l.Pairwise fun a b => a.id ≠ b.id) → ∀ pd ∈ l, p pd.i = true → row (lay p l h) pd.id = pd.ob
  | [], _, _, _, pd, hm, _ => by cases hm
  | q :: l, h, hid, hpw, pd, hm, hp => by
    rw [List.pairwise_cons] at hpw
    show row (lay p l (if p q.i then _ else h)) pd.id = _
    rcases List.mem_cons.1 hm with rfl | hm
    · rw [row_lay_ne (hid pd (List.mem_cons_self ..)) (fun x hx => hid x (List.mem_cons_of_mem _ hx)) fun x hx _ e => hpw.1 x hx e.symm, if_pos hp, row_put]
    · exact row_lay (fun x hx => hid x (List.mem_cons_of_mem _ hx)) hpw.2 pd hm hp
/-! ### The way through a region, in the order in which it stands -/
structure DS where
  t : Tm
  h : Hp
  nx : Nat
  an : Nat
  pds : List Pd
  rds : List Rd
  hs : List Hs
  ab : Nat
inductive DRec where
  | skip
  | q0 (f : Q0) (v : AV)
  | q1 (f : Q1) (v : AV)
  | al (f : A0) (ob : Ob) (kv : Nat → AV)
  | x (f : Xd) (v : AV) (h : Hp) (nx : Nat)
noncomputable def pt (o : Oper) (v : AV) (t : Tm) : Tm := match o.dst with | none => t | some d => put3 t (p3 d) v
theorem putK_eq {o : Oper} {v : AV} {t : Tm} {k : Tm → R} : putK o.dst v t k = k (pt o v t) := by
  rw [putK, oEl_eq]; unfold pt
  cases o.dst <;> simp [fAV_eq, fN8_eq]
def DRec.val (r : DRec) (an : Nat) : AV :=
  match r with | .skip => unit | .q0 _ v => v | .q1 _ v => v | .al _ _ kv => kv an | .x _ v _ _ => v
noncomputable def DRec.next (r : DRec) (o : Oper) (i m : Nat) (s : DS) : DS :=
  let t := pt o (r.val s.an) s.t
  match r with
  | .skip => { s with t := t }
  | .q0 _ _ => { s with t := t }
  | .q1 f v => { s with t := t, rds := ⟨i, m, f s.t, v⟩ :: s.rds }
  | .al _ ob _ => { s with t := t, an := s.an + 1, pds := ⟨i, s.an, ob⟩ :: s.pds }
  | .x _ _ h nx => { s with t := t, h := h, nx := nx, hs := ⟨i, s.h, s.ab⟩ :: s.hs, ab := Nat.lor s.ab m }
/-- an operation is wanted, or not -/
def Wd (all : List Oper) (o : Oper) (t : Tm) : Prop := o.guard = none ∨ ∃ g oj d, o.guard = some g ∧ all[g.1]? = some oj ∧ oj.dst = some d ∧ get3 t (p3 d) = .bool g.2
def Unw (all : List Oper) (o : Oper) (t : Tm) : Prop := ∃ g oj d, o.guard = some g ∧ all[g.1]? = some oj ∧ oj.dst = some d ∧ ((∃ b, get3 t (p3 d) = .bool b ∧ b ≠ g.2) ∨ ∃ l, get3 t (p3 d) = .tuple l)
def DRec.Ok (K : Op → Kd) (base : Nat) (rec : Cd) (all : List Oper) (r : DRec) (o : Oper) (m : Nat) (s : DS) : Prop :=
  match r with
  | .skip => Unw all o s.t
  | .q0 f v => Wd all o s.t ∧ K o.op = .q0 f ∧ f s.t = some v
  | .q1 f v => Wd all o s.t ∧ K o.op = .q1 f ∧ f s.t (absorb m s.ab s.pds s.h) = some v ∧ histOk s.pds m (f s.t) v s.hs = true
  | .al f ob kv => Wd all o s.t ∧ K o.op = .al f ∧ f s.t = .some ob kv
  | .x f v h nx => Wd all o s.t ∧ K o.op = .x f ∧ histIn m s.hs = true ∧ f base rec s.t (absorb m s.ab s.pds s.h) s.nx = .val v h nx ∧ recsOk s.pds m (Nat.lor s.ab m) h s.rds = true
theorem wantK_inv {all : List Oper} {t : Tm} {g : Nat × Bool} {y n r : R} (h : wantK all t g y n = r) (hr : ∀ k, r ≠ .fail k) {o : Oper} (hg : o.guard = some g) : (Wd all o t ∧ y = r) ∨ (Unw all o t ∧ n = r) := by
  rw [wantK, oEl_eq, nth_eq] at h
  split at h
  · exact absurd h.symm (hr _)
  rename_i oj hoj
  rw [oEl_eq] at h
  split at h
  · exact absurd h.symm (hr _)
  rename_i d hd
  rw [onBool_eq] at h
  split at h
  · rename_i b e
    rw [bEl_eq, beqB_eq] at h
    split at h
    · rename_i hb
      have hb : b = g.2 := by simpa using hb
      exact .inl ⟨.inr ⟨g, oj, d, hg, hoj, hd, by rw [e, hb]⟩, h⟩
    · rename_i hb
      exact .inr ⟨⟨g, oj, d, hg, hoj, hd, .inl ⟨b, e, by simpa using hb⟩⟩, h⟩
  · rw [onTuple_eq] at h
    split at h
    · rename_i l e
      exact .inr ⟨⟨g, oj, d, hg, hoj, hd, .inr ⟨l, e⟩⟩, h⟩
    · exact absurd h.symm (hr _)
theorem drK_inv {all : List Oper} {o : Oper} {i m : Nat} {k : Dt} {s : DS} {r : R} (hw : Wd all o s.t) (h : drK K base rec o i m k s.t s.h s.nx s.an s.pds s.rds s.hs s.ab = r) (hr : ∀ j, r ≠ .fail j) :
    ∃ D : DRec, D.Ok K base rec all o m s ∧ k (D.next o i m s).t (D.next o i m s).h (D.next o i m s).nx (D.next o i m s).an (D.next o i m s).pds (D.next o i m s).rds (D.next o i m s).hs (D.next o i m s).ab = r := by
  rw [drK, Kd.el_eq] at h
  split at h
  · rename_i f hk
    rw [oEl_eq] at h
    split at h
    · exact absurd h.symm (hr _)
    rename_i v hv
    rw [putK_eq] at h
    exact ⟨.q0 f v, ⟨hw, hk, hv⟩, h⟩
  · rename_i f hk
    rw [oEl_eq] at h
    split at h
    · exact absurd h.symm (hr _)
    rename_i v hv
    rw [fAV_eq, bEl_eq] at h
    split at h
    · rename_i hh
      rw [putK_eq] at h
      exact ⟨.q1 f v, ⟨hw, hk, hv, hh⟩, h⟩
    · exact absurd h.symm (hr _)
  · rename_i f hk
    rw [AR.el_eq] at h
    split at h
    · exact absurd h.symm (hr _)
    rename_i ob kv hv
    rw [putK_eq, fNat_eq] at h
    exact ⟨.al f ob kv, ⟨hw, hk, hv⟩, h⟩
  · rename_i f hk
    rw [bEl_eq] at h
    split at h
    case isFalse => exact absurd h.symm (hr _)
    rename_i hin
    rw [O.el_eq] at h
    split at h
    · exact absurd h.symm (hr _)
    rename_i v h' nx' hv
    rw [fNat_eq, bEl_eq] at h
    split at h
    case isFalse => exact absurd h.symm (hr _)
    rename_i hrec
    rw [putK_eq] at h
    exact ⟨.x f v h' nx', ⟨hw, hk, hin, hv, hrec⟩, h⟩
  · exact absurd h.symm (hr _)
theorem evDr_inv {all : List Oper} : ∀ {l : List Oper} {ms : List Nat} {i : Nat} {s : DS} {r : R}, evDr K base rec all l ms i s.t s.h s.nx s.an s.pds s.rds s.hs s.ab = r → (∀ j, r ≠ .fail j) →
    ∃ (S : Nat → DS) (D : Nat → DRec), S 0 = s ∧ (∀ j o, l[j]? = some o → ∃ m, ms[j]? = some m ∧ (D j).Ok K base rec all o m (S j) ∧ S (j + 1) = (D j).next o (i + j) m (S j)) ∧
      r = .norm (S l.length).t (absorb 340282366920938463463374607431768211455 (S l.length).ab (S l.length).pds (S l.length).h) (S l.length).nx
  | [], ms, i, s, r, h, hr => by
    refine ⟨fun _ => s, fun _ => .skip, rfl, by simp, ?_⟩
    rw [← h]
    have e : evDr K base rec all [] ms i s.t s.h s.nx s.an s.pds s.rds s.hs s.ab = fN8 (absorb 340282366920938463463374607431768211455 s.ab s.pds s.h) fun h => .norm s.t h s.nx := rfl
    rw [e, fN8_eq]
  | o :: l, ms, i, s, r, h, hr => by
    change lEl ms (.fail 123) (fun m ms => oEl o.guard (drK K base rec o i m (evDr K base rec all l ms (Nat.succ i)) s.t s.h s.nx s.an s.pds s.rds s.hs s.ab) fun g =>
      wantK all s.t g (drK K base rec o i m (evDr K base rec all l ms (Nat.succ i)) s.t s.h s.nx s.an s.pds s.rds s.hs s.ab) (putK o.dst unit s.t fun t => evDr K base rec all l ms (Nat.succ i) t s.h s.nx s.an s.pds s.rds s.hs s.ab)) = r at h
    rw [lEl_eq] at h
    split at h
    · exact absurd h.symm (hr _)
    rename_i m ms
    have step : ∀ D0 : DRec, D0.Ok K base rec all o m s → evDr K base rec all l ms (Nat.succ i) (D0.next o i m s).t (D0.next o i m s).h (D0.next o i m s).nx (D0.next o i m s).an (D0.next o i m s).pds (D0.next o i m s).rds (D0.next o i m s).hs (D0.next o i m s).ab = r →
        ∃ (S : Nat → DS) (D : Nat → DRec), S 0 = s ∧ (∀ j o', (o :: l)[j]? = some o' → ∃ m', (m :: ms)[j]? = some m' ∧ (D j).Ok K base rec all o' m' (S j) ∧ S (j + 1) = (D j).next o' (i + j) m' (S j)) ∧
          r = .norm (S (o :: l).length).t (absorb 340282366920938463463374607431768211455 (S (o :: l).length).ab (S (o :: l).length).pds (S (o :: l).length).h) (S (o :: l).length).nx := by
      intro D0 hD h
      obtain ⟨S, D, h0, h1, h2⟩ := evDr_inv (s := D0.next o i m s) h hr
      refine ⟨fun j => match j with | 0 => s | j + 1 => S j, fun j => match j with | 0 => D0 | j + 1 => D j, rfl, fun j o' ho' => ?_, h2⟩
      cases j with
      | zero => cases ho'; exact ⟨m, rfl, hD, h0⟩
      | succ j =>
        obtain ⟨m', hm', hok, hn⟩ := h1 j o' (by simpa using ho')
        refine ⟨m', by simpa using hm', hok, ?_⟩
        have e : i.succ + j = i + (j + 1) := by omega
        rw [e] at hn; exact hn
    rw [oEl_eq] at h
    split at h
    · rename_i hg
      obtain ⟨D0, hD, h⟩ := drK_inv (.inl hg) h hr
      exact step D0 hD h
    · rename_i g hg
      rcases wantK_inv h hr hg with ⟨hw, h⟩ | ⟨hw, h⟩
      · obtain ⟨D0, hD, h⟩ := drK_inv hw h hr
        exact step D0 hD h
      · rw [putK_eq] at h
        exact step .skip hw h
end Go.Abs
namespace Go.Abs
variable {gs base : Nat} {ι : Inj} {H HS : Hp} {nx : Nat} {w : World}
/-! ### Rows that are left out, and laid back -/
theorem St.sub {hp : Array Obj} (h : St gs base ι HS nx hp) (hsub : ∀ b, b < 262144 → row H b = row HS b ∨ (row H b).live = false) : St gs base ι H nx hp := by
  have up : ∀ b, b < nx → (row H b).live = true → row H b = row HS b := fun b hb hl => by
    rcases hsub b (Nat.lt_of_lt_of_le hb h.lim) with e | e
    · exact e
    · rw [e] at hl; cases hl
  refine ⟨h.glob, h.lim, h.low, h.fresh, fun b hb hb' => ?_, h.old, fun b hb hl => ?_, fun b b' m m' hb hb' e1 e2 hc l1 l2 => ?_, h.sep⟩
  · rcases hsub b hb' with e | e
    · rw [e]; exact h.dead b hb hb'
    · exact e
  · have e := up b hb hl
    rw [e] at hl ⊢; exact h.obs b hb hl
  · rw [up b hb l1] at l1; rw [up b' hb' l2] at l2
    exact h.inj b b' m m' hb hb' e1 e2 hc l1 l2
theorem Live.sub (hlim : nx ≤ 262144) (hsub : ∀ b, b < 262144 → row H b = row HS b ∨ (row H b).live = false) {c : Nat} (hl : Live ι H nx c) : Live ι HS nx c := by
  obtain ⟨b, m, hb, e, hc, l⟩ := hl
  refine ⟨b, m, hb, e, hc, ?_⟩
  rcases hsub b (by omega) with e | e
  · rw [← e]; exact l
  · rw [e] at l; cases l
/-- the block of a row that is left out is nobody's -/
theorem St.left_out {hp : Array Obj} (h : St gs base ι HS nx hp) (hsub : ∀ b, b < 262144 → row H b = row HS b ∨ (row H b).live = false) {b : Nat} {m : Im} (hb : b < nx) (hm : ι b = some m)
    (hd : (row H b).live = false) (hl : (row HS b).live = true) : ¬ Live ι H nx m.c := by
  rintro ⟨b1, m1, hb1, e1, hc, l1⟩
  have e : row H b1 = row HS b1 := by
    rcases hsub b1 (by have := h.lim; omega) with e | e
    · exact e
    · rw [e] at l1; cases l1
  have : b1 = b := h.inj b1 b m1 m hb1 hb e1 hm hc (by rw [← e]; exact l1) hl
  subst this
  rw [hd] at l1; cases l1
theorem lay_back {ι' : Inj} {H' HS' : Hp} {nx' : Nat} {w' : World} (hst : St gs base ι HS nx w.heap) (hsub : ∀ b, b < 262144 → row H b = row HS b ∨ (row H b).live = false)
    (stp : Stp base ι H nx w ι' H' nx' w') (st' : St gs base ι' H' nx' w'.heap)
    (hrow : ∀ b, b < 262144 → row HS' b = row H' b ∨ (b < nx ∧ (row H b).live = false ∧ row HS' b = row HS b ∧ (row HS b).live = true)) (hone : ∀ b k i j, b < nx → row HS b = .one k i j → (row H b).live ≠ false) :
    St gs base ι' HS' nx' w'.heap ∧ Stp base ι HS nx w ι' HS' nx' w' := by
  have key : ∀ b, b < nx → (row H b).live = false → (row HS b).live = true → ∃ m, ι b = some m ∧ ι' b = some m ∧ ObR gs ι m (row HS b) w.heap[m.c]? ∧ m.c < w.heap.size ∧ ¬ Live ι H nx m.c := by
    intro b hb hd hl
    obtain ⟨m, e, r⟩ := hst.obs b hb hl
    exact ⟨m, e, stp.ext _ _ e, r, hst.old b m e, hst.left_out hsub hb e hd hl⟩
  refine ⟨⟨st'.glob, st'.lim, st'.low, st'.fresh, fun b hb hb' => ?_, st'.old, fun b hb hl => ?_, fun b b' m m' hb hb' e1 e2 hc l1 l2 => ?_, st'.sep⟩, ⟨stp.ext, stp.size, stp.up, fun c hc hh => ?_, fun c hc hl => ?_, stp.os, stp.output, stp.tape, stp.keep, fun b k i j hb hr => ?_⟩⟩
  · rcases hrow b hb' with e | ⟨h1, _⟩
    · rw [e]; exact st'.dead b hb hb'
    · have := stp.up; omega
  · have hb2 : b < 262144 := Nat.lt_of_lt_of_le hb st'.lim
    rcases hrow b hb2 with e | ⟨h1, h2, h3, h4⟩
    · rw [e] at hl ⊢; exact st'.obs b hb hl
    · obtain ⟨m, e, e', r, hlt, hnl⟩ := key b h1 h2 h4
      refine ⟨m, e', ?_⟩
      rw [h3, stp.same m.c hlt (.inl hnl)]
      exact r.mono stp.ext
  · have hb2 : b < 262144 := Nat.lt_of_lt_of_le hb st'.lim
    have hb2' : b' < 262144 := Nat.lt_of_lt_of_le hb' st'.lim
    rcases hrow b hb2 with e | ⟨h1, h2, h3, h4⟩
    · rcases hrow b' hb2' with e' | ⟨h1', h2', h3', h4'⟩
      · rw [e] at l1; rw [e'] at l2
        exact st'.inj b b' m m' hb hb' e1 e2 hc l1 l2
      · obtain ⟨m2, f, f', r, hlt, hnl⟩ := key b' h1' h2' h4'
        rw [f'] at e2; cases e2
        rw [e] at l1
        exact absurd (stp.live m'.c hlt ⟨b, m, hb, e1, hc, l1⟩) hnl
    · obtain ⟨m1, f, f', r, hlt, hnl⟩ := key b h1 h2 h4
      rw [f'] at e1; cases e1
      rcases hrow b' hb2' with e' | ⟨h1', h2', h3', h4'⟩
      · rw [e'] at l2
        exact absurd (stp.live m.c hlt ⟨b', m', hb', e2, hc.symm, l2⟩) hnl
      · obtain ⟨m2, g, g', r', hlt', hnl'⟩ := key b' h1' h2' h4'
        rw [g'] at e2; cases e2
        exact hst.inj b b' m m' h1 h1' f g hc h4 h4'
  · refine stp.same c hc ?_
    rcases hh with hh | hh
    · exact .inl fun hl => hh (hl.sub hst.lim hsub)
    · exact .inr hh
  · obtain ⟨b, m, hb, e, hcc, l⟩ := hl
    rcases hrow b (Nat.lt_of_lt_of_le hb st'.lim) with er | ⟨h1, h2, h3, h4⟩
    · rw [er] at l
      exact (stp.live c hc ⟨b, m, hb, e, hcc, l⟩).sub hst.lim hsub
    · obtain ⟨m1, f, f', _⟩ := key b h1 h2 h4
      rw [f'] at e; cases e
      exact ⟨b, m, h1, f, hcc, h4⟩
  · have hb2 : b < 262144 := Nat.lt_of_lt_of_le hb hst.lim
    rcases hsub b hb2 with e | hd
    · obtain ⟨o1, o2⟩ := stp.one b k i j hb (by rw [e]; exact hr)
      refine ⟨?_, o2⟩
      rcases hrow b hb2 with er | ⟨_, h2, h3, _⟩
      · rw [er]; exact o1
      · rw [h3]; exact hr
    · exact absurd hd (hone b k i j hb hr)
/-- a row whose number has been kept free -/
theorem lay_new {ι0 : Inj} {H0 HS' : Hp} {nx0 : Nat} {w0 w' : World} (hst : St gs base ι HS nx w.heap) (h0 : Stp base ι0 H0 nx0 w0 ι HS nx w) {b : Nat} (hb : b < nx) (hb0 : nx0 ≤ b) (hbase : base ≤ nx0) (hfree : ι b = none) {ob : Ob} {o : Obj} {m : Im}
    (hm : m.c = w.heap.size) (ho : ObR gs (ι.put b m) m ob (some o)) (hw : w'.heap = w.heap.push o) (h1 : w'.os = w.os) (h2 : w'.output = w.output) (h3 : w'.tape = w.tape)
    (hself : row HS' b = ob) (hrow : ∀ x, x < 262144 → x ≠ b → row HS' x = row HS x) :
    St gs base (ι.put b m) HS' nx w'.heap ∧ Stp base ι0 H0 nx0 w0 (ι.put b m) HS' nx w' := by
  have hle : ι.le (ι.put b m) := Inj.le_put hfree
  refine ⟨⟨hst.glob.mono hle, hst.lim, hst.low, fun x hx => ?_, fun x hx hx' => ?_, fun x m' hx => ?_, fun x hx hl => ?_, fun x y m1 m2 hx hy e1 e2 hc l1 l2 => ?_, fun x y m1 m2 hx hy e1 e2 => ?_⟩,
    ⟨h0.ext.trans hle, ?_, h0.up, fun c hc hh => ?_, fun c hc hl => ?_, h1.trans h0.os, h2.trans h0.output, h3.trans h0.tape, fun x hx => ?_, fun x k i j hx hr => ?_⟩⟩
  · rw [Inj.put_ne (by omega)]; exact hst.fresh x hx
  · rw [hrow x hx' (by omega)]; exact hst.dead x hx hx'
  · rw [hw, Array.size_push]
    by_cases e : x = b
    · subst e; rw [Inj.put_self] at hx; cases hx; omega
    · rw [Inj.put_ne e] at hx; exact Nat.lt_succ_of_lt (hst.old x m' hx)
  · by_cases e : x = b
    · subst e
      refine ⟨m, Inj.put_self _ _ _, ?_⟩
      rw [hself, hm, hw, Array.getElem?_push_size]; exact ho
    · rw [hrow x (by have := hst.lim; omega) e] at hl ⊢
      obtain ⟨m', e', r⟩ := hst.obs x hx hl
      refine ⟨m', by rw [Inj.put_ne e]; exact e', ?_⟩
      have := hst.old x m' e'
      rw [hw, Array.getElem?_push_lt this, ← Array.getElem?_eq_getElem this]
      exact r.mono hle
  · by_cases f1 : x = b
    · by_cases f2 : y = b
      · omega
      · subst f1
        rw [Inj.put_self] at e1; cases e1
        rw [Inj.put_ne f2] at e2
        have := hst.old y m2 e2; omega
    · rw [Inj.put_ne f1] at e1
      rw [hrow x (by have := hst.lim; omega) f1] at l1
      by_cases f2 : y = b
      · subst f2
        rw [Inj.put_self] at e2; cases e2
        have := hst.old x m1 e1; omega
      · rw [Inj.put_ne f2] at e2
        rw [hrow y (by have := hst.lim; omega) f2] at l2
        exact hst.inj x y m1 m2 hx hy e1 e2 hc l1 l2
  · have hx' : x ≠ b := by omega
    rw [Inj.put_ne hx'] at e1
    by_cases f : y = b
    · subst f; rw [Inj.put_self] at e2; cases e2
      have := hst.old x m1 e1; omega
    · rw [Inj.put_ne f] at e2; exact hst.sep x y m1 m2 hx hy e1 e2
  · rw [hw, Array.size_push]; have := h0.size; omega
  · have hc' : c < w.heap.size := Nat.lt_of_lt_of_le hc h0.size
    rw [hw, Array.getElem?_push_lt hc', ← Array.getElem?_eq_getElem hc']
    exact h0.same c hc hh
  · obtain ⟨x, m', hx, e, ec, l⟩ := hl
    by_cases f : x = b
    · subst f; rw [Inj.put_self] at e; cases e
      have := h0.size; omega
    · rw [Inj.put_ne f] at e
      rw [hrow x (by have := hst.lim; omega) f] at l
      exact h0.live c hc ⟨x, m', hx, e, ec, l⟩
  · rw [Inj.put_ne (by omega)]; exact h0.keep x hx
  · obtain ⟨o1, o2⟩ := h0.one x k i j hx hr
    refine ⟨by rw [hrow x (by have := h0.up; have := hst.lim; omega) (by omega)]; exact o1, fun mm hmm hs => ?_⟩
    have hs' : mm.c < w.heap.size := Nat.lt_of_lt_of_le hs h0.size
    rw [hw, Array.getElem?_push_lt hs', ← Array.getElem?_eq_getElem hs']
    exact o2 mm hmm hs
/-- numbers that are kept free -/
theorem St.more {hp : Array Obj} (h : St gs base ι H nx hp) {nx' : Nat} (h1 : nx ≤ nx') (h2 : nx' ≤ 262144) : St gs base ι H nx' hp := by
  have up : ∀ b, b < nx' → (row H b).live = true → b < nx := fun b hb hl => by
    rcases Nat.lt_or_ge b nx with h3 | h3
    · exact h3
    · rw [h.dead b h3 (by omega)] at hl; cases hl
  refine ⟨h.glob, h2, Nat.le_trans h.low h1, fun b hb => h.fresh b (by omega), fun b hb hb' => h.dead b (by omega) hb', h.old, fun b hb hl => h.obs b (up b hb hl) hl, fun b b' m m' hb hb' e1 e2 hc l1 l2 => ?_, h.sep⟩
  exact h.inj b b' m m' (up b hb l1) (up b' hb' l2) e1 e2 hc l1 l2
theorem Stp.more {nx' : Nat} (h : St gs base ι H nx w.heap) (h1 : nx ≤ nx') (h2 : nx' ≤ 262144) : Stp base ι H nx w ι H nx' { w with drawn := w.drawn + 1 } := by
  refine ⟨.refl _, Nat.le_refl _, h1, fun _ _ _ => rfl, fun c hc hl => ?_, rfl, rfl, rfl, fun _ _ => rfl, fun _ _ _ _ _ hr => ⟨hr, fun _ _ _ => rfl⟩⟩
  obtain ⟨b, m, hb, e, ec, l⟩ := hl
  refine ⟨b, m, ?_, e, ec, l⟩
  rcases Nat.lt_or_ge b nx with h3 | h3
  · exact h3
  · rw [h.dead b h3 (by omega)] at l; cases l
end Go.Abs
namespace Go.Abs
variable {K : Op → Kd} {base : Nat} {rec : Cd} {l : List Oper} {ms : List Nat} {t0 : Tm} {H0 : Hp} {nx0 nx1 : Nat} {S : Nat → DS} {D : Nat → DRec} {O : Nat → Oper} {M : Nat → Nat}
/-- the way through a region -/
structure Way (K : Op → Kd) (base : Nat) (rec : Cd) (l : List Oper) (ms : List Nat) (t0 : Tm) (H0 : Hp) (nx0 nx1 : Nat) (S : Nat → DS) (D : Nat → DRec) (O : Nat → Oper) (M : Nat → Nat) : Prop where
  plan : Plan l ms
  start : S 0 = ⟨t0, H0, nx1, nx0, [], [], [], 0⟩
  op : ∀ j, j < l.length → l[j]? = some (O j)
  mask : ∀ j, j < l.length → ms[j]? = some (M j)
  ok : ∀ j, j < l.length → (D j).Ok K base rec l (O j) (M j) (S j)
  next : ∀ j, j < l.length → S (j + 1) = (D j).next (O j) j (M j) (S j)
def DRec.isx : DRec → Bool
  | .x .. => true
  | _ => false
theorem way_of {nx' : Nat} {r : R} (hp : planOf l = some ms) (h : evDr K base rec l l ms 0 t0 H0 nx' nx0 [] [] [] 0 = r) (hr : ∀ j, r ≠ .fail j) :
    ∃ S D O M, Way K base rec l ms t0 H0 nx0 nx' S D O M ∧ r = .norm (S l.length).t (absorb 340282366920938463463374607431768211455 (S l.length).ab (S l.length).pds (S l.length).h) (S l.length).nx := by
  have hpl := planOf_ok hp
  obtain ⟨S, D, h0, h1, h2⟩ := evDr_inv (s := ⟨t0, H0, nx', nx0, [], [], [], 0⟩) h hr
  have hO : ∀ j, j < l.length → l[j]? = some (l.getD j default) := fun j hj => by simp [hj]
  have hM : ∀ j, j < l.length → ms[j]? = some (ms.getD j 0) := fun j hj => by
    have : j < ms.length := by rw [hpl.masks.len]; exact hj
    simp [this]
  refine ⟨S, D, fun j => l.getD j default, fun j => ms.getD j 0, ⟨hpl, h0, hO, hM, fun j hj => ?_, fun j hj => ?_⟩, h2⟩
  · obtain ⟨m, hm, hok, _⟩ := h1 j _ (hO j hj)
    rw [hM j hj] at hm; cases hm; exact hok
  · obtain ⟨m, hm, _, hn⟩ := h1 j _ (hO j hj)
    rw [hM j hj] at hm; cases hm
    rw [Nat.zero_add] at hn; exact hn
variable (W : Way K base rec l ms t0 H0 nx0 nx1 S D O M)
include W
theorem Way.pds_lt : ∀ j, j ≤ l.length → ∀ pd ∈ (S j).pds, pd.i < j ∧ nx0 ≤ pd.id ∧ pd.id < (S j).an ∧ ∃ f kv, D pd.i = .al f pd.ob kv ∧ (S pd.i).an = pd.id
  | 0, _, pd, hm => by rw [W.start] at hm; cases hm
  | j + 1, hj, pd, hm => by
    have an0 : nx0 ≤ (S j).an := by
      clear hm
      have : ∀ k, k ≤ l.length → nx0 ≤ (S k).an := by
        intro k
        induction k with
        | zero => intro _; rw [W.start]; exact Nat.le_refl _
        | succ k ih =>
          intro hk
          rw [W.next k (by omega)]
          have := ih (by omega)
          cases D k <;> simp only [DRec.next] <;> omega
      exact this j (by omega)
    have ih := Way.pds_lt j (by omega)
    rw [W.next j (by omega)] at hm ⊢
    cases hD : D j <;> rw [hD] at hm <;> simp only [DRec.next] at hm ⊢
    case al f ob kv =>
      rcases List.mem_cons.1 hm with rfl | hm
      · exact ⟨by simp, an0, by simp, f, kv, hD, rfl⟩
      · obtain ⟨h1, h2, h3, h4⟩ := ih pd hm
        exact ⟨by omega, h2, by omega, h4⟩
    all_goals
      obtain ⟨h1, h2, h3, h4⟩ := ih pd hm
      exact ⟨by omega, h2, h3, h4⟩
theorem Way.pds_ne : ∀ j, j ≤ l.length → (S j).pds.Pairwise fun a b => a.id ≠ b.id
  | 0, _ => by rw [W.start]; exact .nil
  | j + 1, hj => by
    have ih := Way.pds_ne j (by omega)
    have hlt := W.pds_lt j (by omega)
    rw [W.next j (by omega)]
    cases D j <;> simp only [DRec.next] <;> try exact ih
    exact List.pairwise_cons.2 ⟨fun pd hpd => by have := (hlt pd hpd).2.2.1; show (S j).an ≠ pd.id; omega, ih⟩
theorem Way.pds_app (k : Nat) : ∀ d, k + d ≤ l.length → ∃ q, (S (k + d)).pds = q ++ (S k).pds ∧ ∀ pd ∈ q, k ≤ pd.i
  | 0, _ => ⟨[], rfl, by simp⟩
  | d + 1, hd => by
    obtain ⟨q, h1, h2⟩ := Way.pds_app k d (by omega)
    have e : k + (d + 1) = (k + d) + 1 := by omega
    rw [e, W.next (k + d) (by omega)]
    cases D (k + d) <;> simp only [DRec.next] <;> try exact ⟨q, h1, h2⟩
    exact ⟨_ :: q, by rw [h1]; rfl, fun pd hpd => by
      rcases List.mem_cons.1 hpd with rfl | hpd
      · show k ≤ k + d; omega
      · exact h2 pd hpd⟩
theorem Way.pds_mem {j : Nat} (hj : j < l.length) {f : A0} {ob : Ob} {kv : Nat → AV} (hD : D j = .al f ob kv) : ⟨j, (S j).an, ob⟩ ∈ (S l.length).pds := by
  obtain ⟨q, h1, _⟩ := W.pds_app (j + 1) (l.length - (j + 1)) (by omega)
  have e : j + 1 + (l.length - (j + 1)) = l.length := by omega
  rw [e] at h1
  rw [h1, W.next j hj, hD]
  exact List.mem_append_right _ (List.mem_cons_self ..)
/-- rows that are laid behind an operation do not matter for what is before it -/
theorem Way.lay_eq {j : Nat} (hj : j ≤ l.length) {p : Nat → Bool} (hp : ∀ i, p i = true → i < j) (h : Hp) : lay p (S j).pds h = lay p (S l.length).pds h := by
  obtain ⟨q, h1, h2⟩ := W.pds_app j (l.length - j) (by omega)
  have e : j + (l.length - j) = l.length := by omega
  rw [e] at h1
  rw [h1, lay_append, lay_none (l := q) (h := h) fun pd hpd => ?_]
  have := h2 pd hpd
  cases hh : p pd.i
  · rfl
  · have := hp _ hh; omega
theorem Way.mask_lt {j : Nat} (hj : j < l.length) {i : Nat} (h : tb (M j) i = true) : i < j := W.plan.masks.lt j (M j) (W.mask j hj) i h
theorem Way.absorb_eq {j : Nat} (hj : j < l.length) (ab : Nat) (h : Hp) : absorb (M j) ab (S j).pds h = lay (fun i => tb (M j) i && !tb ab i) (S l.length).pds h := by
  rw [Go.Abs.absorb_eq]
  refine W.lay_eq (by omega) (fun i hi => ?_) h
  rw [Bool.and_eq_true] at hi
  exact W.mask_lt hj hi.1
theorem Way.an_le : ∀ j, j ≤ l.length → (S j).an + countAl K (l.drop j) ≤ nx0 + countAl K l
  | 0, _ => by rw [W.start]; exact Nat.le_refl _
  | j + 1, hj => by
    have ih := Way.an_le j (by omega)
    have hj' : j < l.length := by omega
    have e : l.drop j = l[j] :: l.drop (j + 1) := by rw [List.drop_eq_getElem_cons hj']
    have eo : l[j] = O j := by
      have := W.op j hj'
      rw [List.getElem?_eq_getElem hj'] at this
      exact Option.some.inj this
    rw [e, eo] at ih
    change (S j).an + bEl (isAl K (O j)) (Nat.succ (countAl K (l.drop (j + 1)))) (countAl K (l.drop (j + 1))) ≤ nx0 + countAl K l at ih
    rw [bEl_eq] at ih
    have hok := W.ok j hj'
    rw [W.next j hj']
    cases hD : D j <;> rw [hD] at hok <;> simp only [DRec.next]
    case al f ob kv =>
      have : isAl K (O j) = true := by rw [isAl, hok.2.1]; rfl
      rw [if_pos this] at ih
      omega
    all_goals (split at ih <;> omega)
/-- between two that do something -/
theorem Way.stay (c : Nat) : ∀ d, c + d ≤ l.length → (∀ y, c ≤ y → y < c + d → (D y).isx = false) → (S (c + d)).h = (S c).h ∧ (S (c + d)).nx = (S c).nx ∧ (S (c + d)).ab = (S c).ab ∧ (S (c + d)).hs = (S c).hs
  | 0, _, _ => ⟨rfl, rfl, rfl, rfl⟩
  | d + 1, hd, hx => by
    have ih := Way.stay c d (by omega) fun y h1 h2 => hx y h1 (by omega)
    have e : c + (d + 1) = (c + d) + 1 := by omega
    have hn := hx (c + d) (by omega) (by omega)
    rw [e, W.next (c + d) (by omega)]
    cases hD : D (c + d) <;> rw [hD] at hn <;> simp only [DRec.next] <;> first | exact ih | cases hn
theorem Way.stay' {c j : Nat} (hc : c ≤ j) (hj : j ≤ l.length) (hx : ∀ y, c ≤ y → y < j → (D y).isx = false) : (S j).h = (S c).h ∧ (S j).nx = (S c).nx ∧ (S j).ab = (S c).ab ∧ (S j).hs = (S c).hs := by
  have := W.stay c (j - c) (by omega) fun y h1 h2 => hx y h1 (by omega)
  have e : c + (j - c) = j := by omega
  rw [e] at this; exact this
theorem Way.hs_app {y : Nat} (hx : (D y).isx = true) : ∀ d, y + 1 + d ≤ l.length → ∃ pre, (S (y + 1 + d)).hs = pre ++ ⟨y, (S y).h, (S y).ab⟩ :: (S y).hs ∧ ∀ z ∈ pre, y < z.i ∧ z.i < y + 1 + d ∧ (D z.i).isx = true
  | 0, hd => by
    refine ⟨[], ?_, by simp⟩
    rw [Nat.add_zero, W.next y (by omega)]
    cases hD : D y <;> rw [hD] at hx <;> try (cases hx; done)
    rfl
  | d + 1, hd => by
    obtain ⟨pre, h1, h2⟩ := Way.hs_app hx d (by omega)
    have e : y + 1 + (d + 1) = (y + 1 + d) + 1 := by omega
    rw [e, W.next (y + 1 + d) (by omega)]
    have h2' : ∀ z ∈ pre, y < z.i ∧ z.i < y + 1 + d + 1 ∧ (D z.i).isx = true := fun z hz => by have := h2 z hz; exact ⟨this.1, by omega, this.2.2⟩
    cases hD : D (y + 1 + d) <;> simp only [DRec.next] <;> try exact ⟨pre, h1, h2'⟩
    exact ⟨_ :: pre, by rw [h1]; rfl, fun z hz => by
      rcases List.mem_cons.1 hz with rfl | hz
      · exact ⟨by show y < y + 1 + d; omega, by show y + 1 + d < _; omega, by show (D (y + 1 + d)).isx = true; rw [hD]; rfl⟩
      · exact h2' z hz⟩
theorem Way.hs_mem {y j : Nat} (hx : (D y).isx = true) (hy : y < j) (hj : j ≤ l.length) : ∃ pre, (S j).hs = pre ++ ⟨y, (S y).h, (S y).ab⟩ :: (S y).hs ∧ ∀ z ∈ pre, y < z.i ∧ z.i < j ∧ (D z.i).isx = true := by
  have := W.hs_app hx (j - (y + 1)) (by omega)
  have e : y + 1 + (j - (y + 1)) = j := by omega
  rw [e] at this; exact this
omit W in
theorem histIn_ok {m : Nat} : ∀ {hs : List Hs}, histIn m hs = true → ∀ z ∈ hs, tb m z.i = true
  | [], _, z, hz => by cases hz
  | x :: hs, h, z, hz => by
    change bEl (tb m x.i) (histIn m hs) false = true at h
    rw [bEl_eq] at h
    split at h
    case isFalse => cases h
    rename_i hx
    rcases List.mem_cons.1 hz with rfl | hz
    · exact hx
    · exact histIn_ok h z hz
/-- those that do something are in order -/
theorem Way.order {i y : Nat} (hi : i < l.length) (hxi : (D i).isx = true) (hy : y < i) (hxy : (D y).isx = true) : tb (M i) y = true := by
  obtain ⟨pre, h1, _⟩ := W.hs_mem hxy hy (by omega : i ≤ l.length)
  have hok := W.ok i hi
  cases hD : D i <;> rw [hD] at hok hxi <;> try (cases hxi; done)
  have := histIn_ok hok.2.2.1
  rw [h1] at this
  exact this ⟨y, (S y).h, (S y).ab⟩ (List.mem_append_right _ (List.mem_cons_self ..))
omit W in
theorem histOk_ok {pds : List Pd} {m : Nat} {f : Hp → Option AV} {v : AV} {x : Hs} {post : List Hs} (hx : tb m x.i = false) : ∀ {pre : List Hs}, histOk pds m f v (pre ++ x :: post) = true → (∀ z ∈ pre, tb m z.i = false) → readsSame f v (absorb m x.ab pds x.h) = true
  | [], h, _ => by
    change bEl (tb m x.i) true (bEl (readsSame f v (absorb m x.ab pds x.h)) (histOk pds m f v post) false) = true at h
    rw [hx] at h
    change bEl (readsSame f v (absorb m x.ab pds x.h)) (histOk pds m f v post) false = true at h
    rw [bEl_eq] at h
    split at h
    · assumption
    · cases h
  | z :: pre, h, hz => by
    change bEl (tb m z.i) true (bEl (readsSame f v (absorb m z.ab pds z.h)) (histOk pds m f v (pre ++ x :: post)) false) = true at h
    rw [hz z (List.mem_cons_self ..)] at h
    change bEl (readsSame f v (absorb m z.ab pds z.h)) (histOk pds m f v (pre ++ x :: post)) false = true at h
    rw [bEl_eq] at h
    split at h
    · exact histOk_ok hx h fun z' hz' => hz z' (List.mem_cons_of_mem _ hz')
    · cases h
theorem Way.rds_mem {r : Nat} {f : Q1} {v : AV} (hD : D r = .q1 f v) : ∀ d, r + 1 + d ≤ l.length → ⟨r, M r, f (S r).t, v⟩ ∈ (S (r + 1 + d)).rds
  | 0, hd => by
    rw [Nat.add_zero, W.next r (by omega), hD]
    exact List.mem_cons_self ..
  | d + 1, hd => by
    have ih := Way.rds_mem hD d (by omega)
    have e : r + 1 + (d + 1) = (r + 1 + d) + 1 := by omega
    rw [e, W.next (r + 1 + d) (by omega)]
    cases D (r + 1 + d) <;> simp only [DRec.next] <;> first | exact ih | exact List.mem_cons_of_mem _ ih
omit W in
theorem recsOk_ok {pds : List Pd} {m ab : Nat} {h : Hp} {r : Rd} (hr : tb m r.i = false) : ∀ {rds : List Rd}, recsOk pds m ab h rds = true → r ∈ rds → readsSame r.f r.v (absorb r.m ab pds h) = true
  | [], _, hm => by cases hm
  | q :: rds, hh, hm => by
    change bEl (tb m q.i) (recsOk pds m ab h rds) (bEl (readsSame q.f q.v (absorb q.m ab pds h)) (recsOk pds m ab h rds) false) = true at hh
    rw [bEl_eq, bEl_eq] at hh
    rcases List.mem_cons.1 hm with rfl | hm
    · rw [hr] at hh
      simp only [Bool.false_eq_true, if_false] at hh
      split at hh
      · assumption
      · cases hh
    · refine recsOk_ok hr ?_ hm
      split at hh
      · exact hh
      · split at hh
        · exact hh
        · cases hh
theorem Way.ab_mem : ∀ j, j ≤ l.length → ∀ k, tb (S j).ab k = true → ∃ y, y < j ∧ (D y).isx = true ∧ tb (M y) k = true
  | 0, _, k, hk => by rw [W.start] at hk; rw [tb_zero] at hk; cases hk
  | j + 1, hj, k, hk => by
    have ih := Way.ab_mem j (by omega) k
    rw [W.next j (by omega)] at hk
    have old : tb (S j).ab k = true → ∃ y, y < j + 1 ∧ (D y).isx = true ∧ tb (M y) k = true := fun h => let ⟨y, h1, h2⟩ := ih h; ⟨y, by omega, h2⟩
    cases hD : D j <;> rw [hD] at hk <;> simp only [DRec.next] at hk <;> try exact old hk
    rw [tb_lor, Bool.or_eq_true] at hk
    rcases hk with hk | hk
    · exact old hk
    · exact ⟨j, by omega, by rw [hD]; rfl, hk⟩
/-- what a temporary has -/
theorem Way.tmp_of (hd5 : ∀ j d, j < l.length → (O j).dst = some d → d < 512) : ∀ j, j ≤ l.length → ∀ p d, p < j → (O p).dst = some d → get3 (S j).t (p3 d) = (D p).val (S p).an
  | 0, _, p, d, hp, _ => by omega
  | j + 1, hj, p, d, hp, hd => by
    have ht : (S (j + 1)).t = pt (O j) ((D j).val (S j).an) (S j).t := by
      rw [W.next j (by omega)]
      cases D j <;> rfl
    rw [ht]
    unfold pt
    rcases Nat.lt_or_ge p j with h1 | h1
    · have ih := Way.tmp_of hd5 j (by omega) p d h1 hd
      split
      · exact ih
      · rename_i e he
        have hne : e ≠ d := fun e' => (W.plan.apart j p (O j) (O p) (M j) h1 (W.op j (by omega)) (W.mask j (by omega)) (W.op p (by omega))).ne d hd (by rw [he, e'])
        rw [get3_put_ne _ _ fun h => hne (p3_inj (hd5 j e (by omega) he) (hd5 p d (by omega) hd) h)]
        exact ih
    · have : p = j := by omega
      subst this
      rw [hd]
      simp only [get3_put]
theorem Way.tmp_old (hd5 : ∀ j d, j < l.length → (O j).dst = some d → d < 512) : ∀ j, j ≤ l.length → ∀ d, d < 512 → (∀ p, p < j → (O p).dst ≠ some d) → get3 (S j).t (p3 d) = get3 t0 (p3 d)
  | 0, _, d, _, _ => by rw [W.start]
  | j + 1, hj, d, hd, hn => by
    have ht : (S (j + 1)).t = pt (O j) ((D j).val (S j).an) (S j).t := by
      rw [W.next j (by omega)]
      cases D j <;> rfl
    rw [ht]
    unfold pt
    have ih := Way.tmp_old hd5 j (by omega) d hd fun p hp => hn p (by omega)
    split
    · exact ih
    · rename_i e he
      have hne : e ≠ d := fun e' => hn j (by omega) (by rw [he, e'])
      rw [get3_put_ne _ _ fun h => hne (p3_inj (hd5 j e (by omega) he) hd h)]
      exact ih
end Go.Abs
namespace Go.Abs
/-! ### The same value -/
theorem cpEq_ok {c d : Cp} (h : cpEq c d = true) : d = c := by
  cases c <;> cases d <;> simp [cpEq, Cp.el] at h <;> simp [h]
theorem sameC0_ok {x y : AV} (h : sameC0 x y = true) : y = x := by
  cases x
  case bool a => change onBool y false (fun b => beqB a b) = true at h; rw [onBool_eq] at h; split at h; (rw [beqB_eq] at h; simp at h; rw [h]); cases h
  case int j a =>
    change onInt y false (fun k b => band (keq j k) (ieq a b)) = true at h; rw [onInt_eq] at h; split at h
    · rename_i k b
      rw [band_eq, Bool.and_eq_true, ieq_eq] at h
      have h1 := keq_eq _ _ h.1
      have h2 : a = b := by simpa using h.2
      rw [h1, h2]
    · cases h
  case str a => change onStr y false (fun b => leq a b) = true at h; rw [onStr_eq] at h; split at h; (rw [leq_eq] at h; simp at h; rw [h]); cases h
  case ptr a o => change onPtr y false (fun b p => band (Nat.beq a b) (Nat.beq o p)) = true at h; rw [onPtr_eq] at h; split at h; (rw [band_eq, Bool.and_eq_true] at h; rw [Nat.eq_of_beq_eq_true h.1, Nat.eq_of_beq_eq_true h.2]); cases h
  case nilPtr => change onNilPtr y false true = true at h; rw [onNilPtr_eq] at h; split at h; rfl; cases h
  case slice a o l c =>
    change onSlice y false (fun b p m d => band (Nat.beq a b) (band (Nat.beq o p) (band (Nat.beq l m) (cpEq c d)))) = true at h; rw [onSlice_eq] at h; split at h
    · simp only [band_eq, Bool.and_eq_true] at h
      rw [Nat.eq_of_beq_eq_true h.1, Nat.eq_of_beq_eq_true h.2.1, Nat.eq_of_beq_eq_true h.2.2.1, cpEq_ok h.2.2.2]
    · cases h
  case nilSlice => change onNilSlice y false true = true at h; rw [onNilSlice_eq] at h; split at h; rfl; cases h
  case map a => change onMap y false (fun b => Nat.beq a b) = true at h; rw [onMap_eq] at h; split at h; (rw [Nat.eq_of_beq_eq_true h]); cases h
  case nilMap => change onNilMap y false true = true at h; rw [onNilMap_eq] at h; split at h; rfl; cases h
  case nilFunc => change onNilFunc y false true = true at h; rw [onNilFunc_eq] at h; split at h; rfl; cases h
  case nilIface => change onNilIface y false true = true at h; rw [onNilIface_eq] at h; split at h; rfl; cases h
  all_goals cases h
theorem sameL0_ok : ∀ {a b : List AV}, sameL sameC0 a b = true → b = a
  | [], b, h => by
    change lEl b true (fun _ _ => false) = true at h
    rw [lEl_eq] at h
    split at h
    · rfl
    · cases h
  | x :: a, b, h => by
    change lEl b false (fun y l => bEl (sameC0 x y) (sameL sameC0 a l) false) = true at h
    rw [lEl_eq] at h
    split at h
    · cases h
    · rw [bEl_eq] at h
      split at h
      · rename_i hx
        rw [sameC0_ok hx, sameL0_ok h]
      · cases h
theorem sameF_ok {f g : Fn} (h : sameF f g = true) : g = f := by
  cases f with
  | func a =>
    cases g with
    | func b => rw [show b = a from (Nat.eq_of_beq_eq_true h).symm]
    | _ => cases h
  | _ => cases h
theorem sameC_ok {x y : AV} (h : sameC x y = true) : y = x := by
  rw [sameC, onFunc_eq] at h
  split at h
  · rename_i f a c
    rw [onFunc_eq] at h
    split at h
    · rename_i g b d
      simp only [band_eq, Bool.and_eq_true] at h
      rw [sameF_ok h.1, sameL0_ok h.2.1, sameL0_ok h.2.2]
    · cases h
  · exact sameC0_ok h
theorem sameL_ok : ∀ {a b : List AV}, sameL sameC a b = true → b = a
  | [], b, h => by
    change lEl b true (fun _ _ => false) = true at h
    rw [lEl_eq] at h
    split at h
    · rfl
    · cases h
  | x :: a, b, h => by
    change lEl b false (fun y l => bEl (sameC x y) (sameL sameC a l) false) = true at h
    rw [lEl_eq] at h
    split at h
    · cases h
    · rw [bEl_eq] at h
      split at h
      · rename_i hx
        rw [sameC_ok hx, sameL_ok h]
      · cases h
theorem sameV_ok {x y : AV} (h : sameV x y = true) : y = x := by
  rw [sameV, onAgg_eq] at h
  split at h
  · rw [onAgg_eq] at h
    split at h
    · rw [sameL_ok h]
    · cases h
  · exact sameC_ok h
theorem readsSame_ok {f : Hp → Option AV} {v : AV} {h : Hp} (hh : readsSame f v h = true) : f h = some v := by
  rw [readsSame, oEl_eq] at hh
  split at hh
  · cases hh
  · rename_i w hw
    rw [hw, sameV_ok hh]
/-! ### Where a region stands -/
variable {K : Op → Kd} {gs base n : Nat} {rec : Cd} {ops : Array Oper} {ms : List Nat} {t0 : Tm} {H0 : Hp} {nx0 nx1 : Nat} {S : Nat → DS} {D : Nat → DRec} {O : Nat → Oper} {M : Nat → Nat} {ι0 ι : Inj} {w0 w : World} {a0 a : Act}
/-- the heap, where some are done and those that do something have come so far -/
noncomputable def hp (S : Nat → DS) (N : Nat) (L : Nat → Bool) (c : Nat) : Hp := lay (fun i => L i && !tb (S c).ab i) (S N).pds (S c).h
structure At (gs base n : Nat) (l : List Oper) (t0 : Tm) (H0 : Hp) (nx0 : Nat) (S : Nat → DS) (D : Nat → DRec) (O : Nat → Oper) (ι0 : Inj) (w0 : World) (a0 : Act) (L : Nat → Bool) (c : Nat) (ι : Inj) (a : Act) (w : World) : Prop where
  inside : ∀ i, L i = true → i < l.length
  closed : ∀ (i : Nat) (o : Oper), l[i]? = some o → L i = true → ∀ j, Aft o j → L j = true
  cle : c ≤ l.length
  cur : ∀ y, y < l.length → (D y).isx = true → (L y = true ↔ y < c)
  size : a.tmps.size = n
  tmp : ∀ d, d < n → ∃ x, a.tmps[d]? = some x ∧ (∀ i, L i = true → (O i).dst = some d → VR ι ((D i).val (S i).an) x) ∧ ((∀ i, L i = true → (O i).dst ≠ some d) → VR ι (get3 t0 (p3 d)) x)
  st : St gs base ι (hp S l.length L c) (S c).nx w.heap
  stp : Stp base ι0 H0 nx0 w0 ι (hp S l.length L c) (S c).nx w
  free : ∀ pd ∈ (S l.length).pds, L pd.i = false → ι pd.id = none
  low : ∀ pd ∈ (S l.length).pds, pd.id < (S c).nx
  dead : ∀ pd ∈ (S l.length).pds, tb (S c).ab pd.i = false → (row (S c).h pd.id).live = false
  alive : ∀ pd ∈ (S l.length).pds, L pd.i = true → pd.ob.plain = true
  defers : a.defers = a0.defers
  keeps : Keeps (dsts l) a0 a
/-- one more is done -/
def more (L : Nat → Bool) (i : Nat) : Nat → Bool := fun k => decide (k = i) || L k
theorem more_self (L : Nat → Bool) (i : Nat) : more L i i = true := by simp [more]
theorem more_of {L : Nat → Bool} {i k : Nat} (h : L k = true) : more L i k = true := by simp [more, h]
theorem more_ne {L : Nat → Bool} {i k : Nat} (h : k ≠ i) : more L i k = L k := by simp [more, h]
theorem mem_dsts {l : List Oper} {o : Oper} {d : Nat} (ho : o ∈ l) (hd : o.dst = some d) : d ∈ dsts l := by
  induction l with
  | nil => cases ho
  | cons p l ih =>
    rw [dsts_cons]
    rcases List.mem_cons.1 ho with rfl | ho
    · exact List.mem_append_left _ (by simp [dstL, hd])
    · exact List.mem_append_right _ (ih ho)
/-- what is given: the way, the code's bounds -/
structure Given (K : Op → Kd) (gs base n : Nat) (rec : Cd) (l : List Oper) (ms : List Nat) (t0 : Tm) (H0 : Hp) (nx0 nx1 : Nat) (S : Nat → DS) (D : Nat → DRec) (O : Nat → Oper) (M : Nat → Nat) : Prop where
  way : Way K base rec l ms t0 H0 nx0 nx1 S D O M
  bound : ∀ p ∈ l, operB gs n p = true
  lim : n ≤ 512
  count : nx0 + countAl K l ≤ nx1
  top : nx1 ≤ 262144
  low : base ≤ nx0
variable {l : List Oper} {L : Nat → Bool} {c i : Nat}
theorem Given.dst (G : Given K gs base n rec l ms t0 H0 nx0 nx1 S D O M) {j d : Nat} (hj : j < l.length) (hd : (O j).dst = some d) : d < n :=
  operB_dst (G.bound _ (List.mem_of_getElem? (G.way.op j hj))) hd
theorem Given.dst5 (G : Given K gs base n rec l ms t0 H0 nx0 nx1 S D O M) : ∀ j d, j < l.length → (O j).dst = some d → d < 512 := fun _ _ hj hd => Nat.lt_of_lt_of_le (G.dst hj hd) G.lim
theorem Given.uniq (G : Given K gs base n rec l ms t0 H0 nx0 nx1 S D O M) {i j d : Nat} (hi : i < l.length) (hj : j < l.length) (h1 : (O i).dst = some d) (h2 : (O j).dst = some d) : i = j := by
  have W := G.way
  rcases Nat.lt_trichotomy i j with h | h | h
  · exact absurd h2 ((W.plan.apart j i (O j) (O i) (M j) h (W.op j hj) (W.mask j hj) (W.op i hi)).ne d h1)
  · exact h
  · exact absurd h1 ((W.plan.apart i j (O i) (O j) (M i) h (W.op i hi) (W.mask i hi) (W.op j hj)).ne d h2)
theorem opd_ok' {t : Tm} (hg : GR gs ι) {x : Operand} (hx : opndB gs n x = true) (h : ∀ d, d < n → x = .tmp d → ∃ y, a.tmps[d]? = some y ∧ VR ι (get3 t (p3 d)) y) : VR ι (opd x t) (a.eval x) := by
  cases x with
  | tmp i =>
    obtain ⟨y, hy, hv⟩ := h i (by simpa [opndB] using hx) rfl
    have : a.eval (.tmp i) = y := by simp [Act.eval, Array.getD_eq_getD_getElem?, hy]
    rw [this]; exact hv
  | const v => exact ofValue_ok v
  | global g =>
    obtain ⟨m, e, h1, h2⟩ := hg g (by simpa [opndB] using hx)
    have := VR.ptr (ι := ι) g 0 m e (by omega)
    rw [h1] at this
    simpa [opd, Act.eval] using this
  | func f => exact .func _ _ _ _ _ _ (.func f) .nil .nil
section
variable (G : Given K gs base n rec l ms t0 H0 nx0 nx1 S D O M) (A : At gs base n l t0 H0 nx0 S D O ι0 w0 a0 L c ι a w) (hi : i < l.length) (hL : L i = false) (hr : ∀ j, Aft (O i) j → L j = true)
include G A hi hr
theorem At.sub : ∀ j, tb (M i) j = true → L j = true := G.way.plan.masks.sub A.closed (G.way.op i hi) hr (G.way.mask i hi)
include hL
theorem At.not_before {j : Nat} (hj : j < l.length) (hLj : L j = true) : tb (M j) i = false := by
  cases h : tb (M j) i
  · rfl
  · have := G.way.plan.masks.sub A.closed (G.way.op j hj) (A.closed j (O j) (G.way.op j hj) hLj) (G.way.mask j hj) i h
    rw [hL] at this; cases this
/-- a temporary has what it has on the way -/
theorem At.get {d : Nat} (hd : d < n) (hf : ∀ p, p < i → (O p).dst = some d → L p = true) (hb : ∀ j, i < j → L j = true → (O j).dst ≠ some d) : ∃ x, a.tmps[d]? = some x ∧ VR ι (get3 (S i).t (p3 d)) x := by
  obtain ⟨x, hx, h1, h2⟩ := A.tmp d hd
  refine ⟨x, hx, ?_⟩
  by_cases h : ∃ p, p < i ∧ (O p).dst = some d
  · obtain ⟨p, hp, hpd⟩ := h
    rw [G.way.tmp_of G.dst5 i (by omega) p d hp hpd]
    exact h1 p (hf p hp hpd) hpd
  · have hn : ∀ p, p < i → (O p).dst ≠ some d := fun p hp he => h ⟨p, hp, he⟩
    rw [G.way.tmp_old G.dst5 i (Nat.le_of_lt hi) d (Nat.lt_of_lt_of_le hd G.lim) hn]
    refine h2 fun j hj => ?_
    rcases Nat.lt_trichotomy j i with h3 | h3 | h3
    · exact hn j h3
    · subst h3; rw [hL] at hj; cases hj
    · exact hb j h3 hj
theorem At.opds : ∀ x ∈ opnds (O i).op, VR ι (opd x (S i).t) (a.eval x) := by
  intro x hx
  have W := G.way
  have hBo := G.bound _ (List.mem_of_getElem? (W.op i hi))
  have hB : opndB gs n x = true := by
    unfold operB at hBo
    rw [bEl_eq] at hBo
    split at hBo
    · rw [allL_eq] at hBo; exact List.all_eq_true.1 hBo x hx
    · cases hBo
  refine opd_ok' A.st.glob hB fun d hd e => ?_
  subst e
  refine A.get G hi hL hr hd (fun p hp hpd => ?_) fun j hj hLj hjd => ?_
  · exact A.sub G hi hr p ((W.plan.apart i p (O i) (O p) (M i) hp (W.op i hi) (W.mask i hi) (W.op p (by omega))).fwd d hpd hx)
  · have hj' := A.inside j hLj
    have := (W.plan.apart j i (O j) (O i) (M j) hj (W.op j hj') (W.mask j hj') (W.op i hi)).bwd d hjd hx
    rw [A.not_before G hi hL hr hj' hLj] at this; cases this
theorem At.guard {g : Nat × Bool} {oj : Oper} {d : Nat} (hops : ops.toList = l) (hg : (O i).guard = some g) (hoj : l[g.1]? = some oj) (hd : oj.dst = some d) : ∃ x, yielded ops a.tmps g.1 = (match x with | .bool b => some b | _ => none) ∧ VR ι (get3 (S i).t (p3 d)) x := by
  have W := G.way
  have hb := W.plan.guard i (O i) (M i) g (W.op i hi) (W.mask i hi) hg
  have hlt := W.mask_lt hi hb
  have hLg := A.sub G hi hr _ hb
  have eo : oj = O g.1 := by have := W.op g.1 (by omega); rw [hoj] at this; cases this; rfl
  have hdO : (O g.1).dst = some d := by rw [← eo]; exact hd
  obtain ⟨x, hx, hv⟩ := A.get G hi hL hr (G.dst (by omega) hdO) (fun p hp hpd => by have := G.uniq (by omega) (by omega) hpd hdO; rw [this]; exact hLg)
    fun j hj hLj hjd => by have := G.uniq (A.inside j hLj) (by omega) hjd hdO; omega
  refine ⟨x, ?_, hv⟩
  have hoj' : ops[g.1]? = some oj := by rw [← Array.getElem?_toList, hops]; exact hoj
  simp only [yielded, hoj', Option.bind_some, hd, hx]
  cases x <;> rfl
theorem At.wanted (hops : ops.toList = l) (hw : Wd l (O i) (S i).t) : Region.wanted (O i) (yielded ops a.tmps) = true := by
  rcases hw with hg | ⟨g, oj, d, hg, hoj, hd, hv⟩
  · simp [Region.wanted, hg]
  · obtain ⟨x, hy, hx⟩ := A.guard G hi hL hr hops hg hoj hd
    rw [hv] at hx
    have := hx.bool_inv; subst this
    simp [Region.wanted, hg, hy]
theorem At.unwanted (hops : ops.toList = l) (hw : Unw l (O i) (S i).t) : Region.wanted (O i) (yielded ops a.tmps) = false := by
  obtain ⟨g, oj, d, hg, hoj, hd, hv⟩ := hw
  obtain ⟨x, hy, hx⟩ := A.guard G hi hL hr hops hg hoj hd
  rcases hv with ⟨b, hv, hb⟩ | ⟨vs, hv⟩
  · rw [hv] at hx
    have := hx.bool_inv; subst this
    simp [Region.wanted, hg, hy, hb]
  · rw [hv] at hx
    obtain ⟨b, rfl, _⟩ := hx.tuple_inv
    simp [Region.wanted, hg, hy]
/-- a value goes into its temporary -/
theorem At.put {c' : Nat} {ι' : Inj} {w' : World} {x : Value} (hle : ι.le ι') (hx : VR ι' ((D i).val (S i).an) x) (hc' : c' ≤ l.length) (hcur : ∀ y, y < l.length → (D y).isx = true → (more L i y = true ↔ y < c'))
    (hst : St gs base ι' (hp S l.length (more L i) c') (S c').nx w'.heap) (hstp : Stp base ι0 H0 nx0 w0 ι' (hp S l.length (more L i) c') (S c').nx w')
    (hfree : ∀ pd ∈ (S l.length).pds, more L i pd.i = false → ι' pd.id = none) (hlow : ∀ pd ∈ (S l.length).pds, pd.id < (S c').nx)
    (hdead : ∀ pd ∈ (S l.length).pds, tb (S c').ab pd.i = false → (row (S c').h pd.id).live = false) (halive : ∀ pd ∈ (S l.length).pds, pd.i = i → pd.ob.plain = true) : At gs base n l t0 H0 nx0 S D O ι0 w0 a0 (more L i) c' ι' (a.put (O i).dst x) w' := by
  have W := G.way
  refine ⟨fun k hk => ?_, fun k o ho hk j hj => ?_, hc', hcur, ?_, fun d hd => ?_, hst, hstp, hfree, hlow, hdead, fun pd hpd hh => ?_, by rw [put_defers]; exact A.defers, A.keeps.trans ((put_keeps a (O i) x).mono fun d hd => ?_)⟩
  · by_cases e : k = i
    · subst e; exact hi
    · rw [more_ne e] at hk; exact A.inside k hk
  · by_cases e : k = i
    · subst e
      rw [W.op k hi] at ho; cases ho
      exact more_of (hr j hj)
    · rw [more_ne e] at hk; exact more_of (A.closed k o ho hk j hj)
  · rw [(put_keeps a (O i) x).1]; exact A.size
  · obtain ⟨y, hy, h1, h2⟩ := A.tmp d hd
    by_cases e : (O i).dst = some d
    · refine ⟨x, ?_, fun k hk hkd => ?_, fun hn => absurd e (hn i (more_self ..))⟩
      · simp only [Act.put, e]
        rw [Array.getElem?_setIfInBounds_self_of_lt (by rw [A.size]; exact hd)]
      · have hkl : k < l.length := by
          by_cases e' : k = i
          · subst e'; exact hi
          · rw [more_ne e'] at hk; exact A.inside k hk
        have := G.uniq hkl hi hkd e
        subst this
        exact hx
    · refine ⟨y, ?_, fun k hk hkd => ?_, fun hn => (h2 fun k hk => hn k (more_of hk)).mono hle⟩
      · rw [(put_keeps a (O i) x).2 d ?_]; exact hy
        unfold dstL
        split
        · rename_i d' hd'
          simp only [List.mem_singleton]
          rintro rfl; exact e hd'
        · simp
      · have hne : k ≠ i := fun e' => by subst e'; exact e hkd
        rw [more_ne hne] at hk
        exact (h1 k hk hkd).mono hle
  · by_cases e : pd.i = i
    · exact halive pd hpd e
    · rw [more_ne e] at hh; exact A.alive pd hpd hh
  · refine mem_dsts (List.mem_of_getElem? (W.op i hi)) ?_
    unfold dstL at hd
    split at hd
    · rename_i d' hd'
      simp only [List.mem_singleton] at hd
      rw [hd', hd]
    · cases hd
theorem At.hp_quiet (hnal : ∀ f ob kv, D i ≠ .al f ob kv) : hp S l.length (more L i) c = hp S l.length L c := by
  have W := G.way
  have hne : ∀ pd ∈ (S l.length).pds, pd.i ≠ i := fun pd hpd e => by
    obtain ⟨_, _, _, f, kv, hD, _⟩ := W.pds_lt l.length (Nat.le_refl _) pd hpd
    rw [e] at hD; exact hnal _ _ _ hD
  exact lay_congr fun pd hpd => by rw [more_ne (hne pd hpd)]
/-- one that lays no row, and leaves the heap as it is -/
theorem At.quiet {x : Value} (hx : VR ι ((D i).val (S i).an) x) (hnx : (D i).isx = false) (hnal : ∀ f ob kv, D i ≠ .al f ob kv) : At gs base n l t0 H0 nx0 S D O ι0 w0 a0 (more L i) c ι (a.put (O i).dst x) w := by
  have W := G.way
  have hne : ∀ pd ∈ (S l.length).pds, pd.i ≠ i := fun pd hpd e => by
    obtain ⟨_, _, _, f, kv, hD, _⟩ := W.pds_lt l.length (Nat.le_refl _) pd hpd
    rw [e] at hD; exact hnal _ _ _ hD
  have hhp : hp S l.length (more L i) c = hp S l.length L c := lay_congr fun pd hpd => by rw [more_ne (hne pd hpd)]
  refine A.put G hi hL hr (.refl _) hx A.cle (fun y hy hxy => ?_) (by rw [hhp]; exact A.st) (by rw [hhp]; exact A.stp) (fun pd hpd hh => ?_) A.low A.dead fun pd hpd e => absurd e (hne pd hpd)
  · have : y ≠ i := fun e => by subst e; rw [hnx] at hxy; cases hxy
    rw [more_ne this]; exact A.cur y hy hxy
  · rw [more_ne (hne pd hpd)] at hh; exact A.free pd hpd hh
end
end Go.Abs
namespace Go.Abs
variable {K : Op → Kd} {gs base n : Nat} {rec : Cd} {ops : Array Oper} {ms : List Nat} {t0 : Tm} {H0 : Hp} {nx0 nx1 : Nat} {S : Nat → DS} {D : Nat → DRec} {O : Nat → Oper} {M : Nat → Nat} {ι0 ι : Inj} {w0 w : World} {a0 a : Act} {l : List Oper} {L : Nat → Bool} {c i : Nat}
/-- what a step does to what lies beside it: blocks that no living row lies in -/
structure Loc (b0 : Nat) (ι : Inj) (H : Hp) (nx : Nat) (w : World) (ι' : Inj) (H' : Hp) (nx' : Nat) (w' : World) : Prop where
  ext : ι.le ι'
  size : w.heap.size ≤ w'.heap.size
  same : ∀ c, c < w.heap.size → ¬ Live ι H nx c → w'.heap[c]? = w.heap[c]?
  live : ∀ c, c < w.heap.size → Live ι' H' nx' c → Live ι H nx c
  keep : ι' b0 = ι b0
  up : nx ≤ nx'
theorem Loc.refl (b0 : Nat) (ι : Inj) (H : Hp) (nx : Nat) (w : World) : Loc b0 ι H nx w ι H nx w := ⟨.refl _, Nat.le_refl _, fun _ _ _ => rfl, fun _ _ h => h, rfl, Nat.le_refl _⟩
theorem Stp.loc {base : Nat} {ι ι' : Inj} {H H' : Hp} {nx nx' : Nat} {w w' : World} (h : Stp base ι H nx w ι' H' nx' w') {b0 : Nat} (hb : b0 < nx) : Loc b0 ι H nx w ι' H' nx' w' :=
  ⟨h.ext, h.size, fun c hc hl => h.same c hc (.inl hl), h.live, h.keep b0 hb, h.up⟩
theorem pd_uniq : ∀ {l : List Pd}, (l.Pairwise fun a b => a.id ≠ b.id) → ∀ p ∈ l, ∀ q ∈ l, p.id = q.id → p = q
  | [], _, p, hp, _, _, _ => by cases hp
  | x :: l, h, p, hp, q, hq, e => by
    rw [List.pairwise_cons] at h
    rcases List.mem_cons.1 hp with h1 | h1
    · rcases List.mem_cons.1 hq with h2 | h2
      · rw [h1, h2]
      · rw [h1] at e; exact absurd e (h.1 q h2)
    · rcases List.mem_cons.1 hq with h2 | h2
      · rw [h2] at e; exact absurd e.symm (h.1 p h1)
      · exact pd_uniq h.2 p h1 q h2 e
/-- a row behind the laying -/
theorem row_lay_out {p : Nat → Bool} {l : List Pd} {h : Hp} (hid : ∀ pd ∈ l, pd.id < 262144) (hpw : l.Pairwise fun a b => a.id ≠ b.id) {pd : Pd} (hm : pd ∈ l) (hp : p pd.i = false) : row (lay p l h) pd.id = row h pd.id := by
  refine row_lay_ne (hid pd hm) hid fun q hq hpq e => ?_
  rw [pd_uniq hpw q hq pd hm e, hp] at hpq; cases hpq
theorem lay_sub {p q : Nat → Bool} {l : List Pd} {h : Hp} (hid : ∀ pd ∈ l, pd.id < 262144) (hpw : l.Pairwise fun a b => a.id ≠ b.id) (hpq : ∀ pd ∈ l, p pd.i = true → q pd.i = true)
    (hdead : ∀ pd ∈ l, q pd.i = true → p pd.i = false → (row h pd.id).live = false) : ∀ b, b < 262144 → row (lay p l h) b = row (lay q l h) b ∨ (row (lay p l h) b).live = false := by
  intro b hb
  by_cases hx : ∃ pd ∈ l, pd.id = b
  · obtain ⟨pd, hm, rfl⟩ := hx
    cases hp : p pd.i with
    | true => exact .inl (by rw [row_lay hid hpw pd hm hp, row_lay hid hpw pd hm (hpq pd hm hp)])
    | false =>
      rw [row_lay_out hid hpw hm hp]
      cases hq : q pd.i with
      | true => exact .inr (hdead pd hm hq hp)
      | false => exact .inl (row_lay_out hid hpw hm hq).symm
  · have hn : ∀ (r : Nat → Bool), row (lay r l h) b = row h b := fun r => row_lay_ne hb hid fun pd hm _ e => hx ⟨pd, hm, e⟩
    exact .inl (by rw [hn, hn])
section
variable (G : Given K gs base n rec l ms t0 H0 nx0 nx1 S D O M) (A : At gs base n l t0 H0 nx0 S D O ι0 w0 a0 L c ι a w) (hi : i < l.length) (hL : L i = false) (hr : ∀ j, Aft (O i) j → L j = true)
include G A
theorem At.ids : ∀ pd ∈ (S l.length).pds, pd.id < 262144 := fun pd hpd => Nat.lt_of_lt_of_le (A.low pd hpd) A.st.lim
theorem At.ids_ne : (S l.length).pds.Pairwise fun a b => a.id ≠ b.id := G.way.pds_ne l.length (Nat.le_refl _)
include hi hr
/-- the heap with what is before an operation, out of the heap as it is -/
theorem At.known : ∀ b, b < 262144 → row (lay (fun k => tb (M i) k && !tb (S c).ab k) (S l.length).pds (S c).h) b = row (hp S l.length L c) b ∨ (row (lay (fun k => tb (M i) k && !tb (S c).ab k) (S l.length).pds (S c).h) b).live = false := by
  refine lay_sub (A.ids G) (A.ids_ne G) (fun pd _ h => ?_) fun pd hpd h h' => ?_
  · simp only [Bool.and_eq_true] at h ⊢
    exact ⟨A.sub G hi hr _ h.1, h.2⟩
  · simp only [Bool.and_eq_true, Bool.not_eq_true'] at h
    exact A.dead pd hpd h.2
theorem At.st_known : St gs base ι (lay (fun k => tb (M i) k && !tb (S c).ab k) (S l.length).pds (S c).h) (S c).nx w.heap := A.st.sub (A.known G hi hr)
include hL
/-- a row is made -/
theorem At.laid {f : A0} {ob : Ob} {kv : Nat → AV} {x : Value} {m : Im} {o : Obj} {w' : World} (hD : D i = .al f ob kv) (hl : ob.plain = true) (hm : m.c = w.heap.size) (ho : ObR gs (ι.put (S i).an m) m ob (some o)) (hx : VR (ι.put (S i).an m) (kv (S i).an) x)
    (hw : w'.heap = w.heap.push o) (h1 : w'.os = w.os) (h2 : w'.output = w.output) (h3 : w'.tape = w.tape) : At gs base n l t0 H0 nx0 S D O ι0 w0 a0 (more L i) c (ι.put (S i).an m) (a.put (O i).dst x) w' ∧
      ∀ b0, b0 ≠ (S i).an → Loc b0 ι (hp S l.length L c) (S c).nx w (ι.put (S i).an m) (hp S l.length (more L i) c) (S c).nx w' := by
  have W := G.way
  have hmem := W.pds_mem hi hD
  obtain ⟨_, hge, _, _⟩ := W.pds_lt l.length (Nat.le_refl _) _ hmem
  have hfree := A.free _ hmem hL
  have hab : tb (S c).ab i = false := by
    cases h : tb (S c).ab i
    · rfl
    · obtain ⟨y, hy, hxy, hyk⟩ := W.ab_mem c A.cle i h
      have hyl : y < l.length := by have := A.cle; omega
      have hLy := (A.cur y hyl hxy).2 hy
      rw [A.not_before G hi hL hr hyl hLy] at hyk; cases hyk
  have huniq : ∀ pd ∈ (S l.length).pds, pd.i = i → pd.id = (S i).an ∧ pd.ob = ob := fun pd hpd e => by
    obtain ⟨_, _, _, f', kv', hD', hid'⟩ := W.pds_lt l.length (Nat.le_refl _) pd hpd
    rw [e] at hD' hid'
    rw [hD] at hD'; injection hD' with _ h
    exact ⟨hid'.symm, h.symm⟩
  have hne : ∀ pd ∈ (S l.length).pds, pd.i ≠ i → pd.id ≠ (S i).an := fun pd hpd e e' => by
    have := pd_uniq (A.ids_ne G) pd hpd _ hmem e'
    rw [this] at e; exact e rfl
  have hrows : ∀ b, b < 262144 → b ≠ (S i).an → row (hp S l.length (more L i) c) b = row (hp S l.length L c) b := fun b hb hbne => by
    by_cases hx : ∃ pd ∈ (S l.length).pds, pd.id = b
    · obtain ⟨pd, hpd, rfl⟩ := hx
      have hpi : pd.i ≠ i := fun e => hbne (huniq pd hpd e).1
      unfold hp
      cases hv : (L pd.i && !tb (S c).ab pd.i)
      · rw [row_lay_out (A.ids G) (A.ids_ne G) hpd (by show (more L i pd.i && _) = false; rw [more_ne hpi]; exact hv), row_lay_out (A.ids G) (A.ids_ne G) hpd hv]
      · rw [row_lay (A.ids G) (A.ids_ne G) pd hpd (by show (more L i pd.i && _) = true; rw [more_ne hpi]; exact hv), row_lay (A.ids G) (A.ids_ne G) pd hpd hv]
    · have hn : ∀ (r : Nat → Bool), row (lay r (S l.length).pds (S c).h) b = row (S c).h b := fun r => row_lay_ne hb (A.ids G) fun pd hm _ e => hx ⟨pd, hm, e⟩
      unfold hp
      rw [hn, hn]
  obtain ⟨s1, s2⟩ := lay_new (HS' := hp S l.length (more L i) c) A.st A.stp (A.low _ hmem) hge G.low hfree hm ho hw h1 h2 h3 (row_lay (p := fun k => more L i k && !tb (S c).ab k) (A.ids G) (A.ids_ne G) _ hmem (by simp [more_self, hab])) hrows
  refine ⟨?_, fun b0 hb0 => ⟨Inj.le_put hfree, by rw [hw, Array.size_push]; omega, fun c hc _ => ?_, fun c' hc ⟨b, mm, hb, e, ec, el⟩ => ?_, Inj.put_ne hb0, Nat.le_refl _⟩⟩
  rotate_left
  · rw [hw, Array.getElem?_push_lt hc, ← Array.getElem?_eq_getElem hc]
  · by_cases f : b = (S i).an
    · subst f; rw [Inj.put_self] at e; cases e; omega
    · rw [Inj.put_ne f] at e
      rw [hrows b (Nat.lt_of_lt_of_le hb A.st.lim) f] at el
      exact ⟨b, mm, hb, e, ec, el⟩
  refine A.put G hi hL hr (Inj.le_put hfree) (by rw [hD]; exact hx) A.cle (fun y hy hxy => ?_) s1 s2 (fun pd hpd hh => ?_) A.low A.dead fun pd hpd e => by rw [(huniq pd hpd e).2]; exact hl
  · have : y ≠ i := fun e => by subst e; rw [hD] at hxy; cases hxy
    rw [more_ne this]; exact A.cur y hy hxy
  · have hpi : pd.i ≠ i := fun e => by rw [e, more_self] at hh; cases hh
    rw [more_ne hpi] at hh
    rw [Inj.put_ne (hne pd hpd hpi)]; exact A.free pd hpd hh
/-- those that do something -/
theorem At.turn (hxi : (D i).isx = true) : c ≤ i ∧ ∀ y, c ≤ y → y < i → (D y).isx = false := by
  have W := G.way
  have hci : c ≤ i := by
    rcases Nat.lt_or_ge i c with h | h
    · have := (A.cur i hi hxi).2 h
      rw [hL] at this; cases this
    · exact h
  refine ⟨hci, fun y h1 h2 => ?_⟩
  cases hxy : (D y).isx
  · rfl
  · have := A.sub G hi hr _ (W.order hi hxi h2 hxy)
    have := (A.cur y (by omega) hxy).1 this
    omega
theorem At.effect {f : Xd} {v : AV} {h' : Hp} {nx' : Nat} (hD : D i = .x f v h' nx') {x : Value} {ι' : Inj} {w' : World} (hx : VR ι' v x)
    (hs : Stp base ι (lay (fun k => tb (M i) k && !tb (S c).ab k) (S l.length).pds (S c).h) (S c).nx w ι' h' nx' w') (hst : St gs base ι' h' nx' w'.heap) :
    At gs base n l t0 H0 nx0 S D O ι0 w0 a0 (more L i) (i + 1) ι' (a.put (O i).dst x) w' ∧ ∀ b0, b0 < (S c).nx → Loc b0 ι (hp S l.length L c) (S c).nx w ι' (hp S l.length (more L i) (i + 1)) (S (i + 1)).nx w' := by
  have W := G.way
  have hxi : (D i).isx = true := by rw [hD]; rfl
  obtain ⟨hci, hno⟩ := A.turn G hi hL hr hxi
  obtain ⟨e1, e2, e3, e4⟩ := W.stay' hci (Nat.le_of_lt hi) hno
  have hS : (S (i + 1)).h = h' ∧ (S (i + 1)).nx = nx' ∧ (S (i + 1)).ab = Nat.lor (S c).ab (M i) := by
    rw [W.next i hi, hD]; exact ⟨rfl, rfl, by show Nat.lor (S i).ab (M i) = _; rw [e3]⟩
  obtain ⟨g1, g2, g3⟩ := hS
  have hne : ∀ pd ∈ (S l.length).pds, pd.i ≠ i := fun pd hpd e => by
    obtain ⟨_, _, _, f, kv, hD', _⟩ := W.pds_lt l.length (Nat.le_refl _) pd hpd
    rw [e, hD] at hD'; cases hD'
  have hhp : hp S l.length (more L i) (i + 1) = lay (fun k => more L i k && !tb (Nat.lor (S c).ab (M i)) k) (S l.length).pds h' := by unfold hp; rw [g1, g3]
  have hknown := A.known G hi hr
  have hout : ∀ pd ∈ (S l.length).pds, L pd.i = true → tb (Nat.lor (S c).ab (M i)) pd.i = false → (row (lay (fun k => tb (M i) k && !tb (S c).ab k) (S l.length).pds (S c).h) pd.id).live = false ∧ row (hp S l.length L c) pd.id = pd.ob ∧ (row (hp S l.length L c) pd.id).live = true := by
    intro pd hpd hLp hab
    rw [tb_lor, Bool.or_eq_false_iff] at hab
    have e : row (hp S l.length L c) pd.id = pd.ob := row_lay (A.ids G) (A.ids_ne G) pd hpd (by simp [hLp, hab.1])
    refine ⟨?_, e, by rw [e]; exact Ob.plain_live (A.alive pd hpd hLp)⟩
    rw [row_lay_out (A.ids G) (A.ids_ne G) hpd (by simp [hab.2])]
    exact A.dead pd hpd hab.1
  have hrows : ∀ b, b < 262144 → row (hp S l.length (more L i) (i + 1)) b = row h' b ∨ (b < (S c).nx ∧ (row (lay (fun k => tb (M i) k && !tb (S c).ab k) (S l.length).pds (S c).h) b).live = false ∧ row (hp S l.length (more L i) (i + 1)) b = row (hp S l.length L c) b ∧ (row (hp S l.length L c) b).live = true) := by
    intro b hb
    rw [hhp]
    by_cases hx : ∃ pd ∈ (S l.length).pds, pd.id = b
    · obtain ⟨pd, hpd, rfl⟩ := hx
      cases hv : (more L i pd.i && !tb (Nat.lor (S c).ab (M i)) pd.i)
      · exact .inl (row_lay_out (A.ids G) (A.ids_ne G) hpd hv)
      · rw [more_ne (hne pd hpd)] at hv
        simp only [Bool.and_eq_true, Bool.not_eq_true'] at hv
        obtain ⟨k1, k2, k3⟩ := hout pd hpd hv.1 hv.2
        refine .inr ⟨A.low pd hpd, k1, ?_, k3⟩
        rw [k2]
        exact row_lay (A.ids G) (A.ids_ne G) pd hpd (by rw [more_ne (hne pd hpd), hv.1, hv.2]; rfl)
    · exact .inl (row_lay_ne hb (A.ids G) fun pd hm _ e => hx ⟨pd, hm, e⟩)
  have hones : ∀ b k i' j, b < (S c).nx → row (hp S l.length L c) b = .one k i' j → (row (lay (fun k => tb (M i) k && !tb (S c).ab k) (S l.length).pds (S c).h) b).live ≠ false := by
    intro b k i' j hb hrb hd
    have hb2 : b < 262144 := Nat.lt_of_lt_of_le hb A.st.lim
    rcases hknown b hb2 with e | e
    · rw [e, hrb] at hd; cases hd
    · by_cases hx : ∃ pd ∈ (S l.length).pds, pd.id = b
      · obtain ⟨pd, hpd, rfl⟩ := hx
        cases hv : (L pd.i && !tb (S c).ab pd.i)
        · have e1 : row (hp S l.length L c) pd.id = row (S c).h pd.id := row_lay_out (A.ids G) (A.ids_ne G) hpd hv
          rw [Bool.and_eq_false_iff] at hv
          have : tb (S c).ab pd.i = true ∨ L pd.i = false := by
            rcases hv with hv | hv
            · exact .inr hv
            · exact .inl (by simpa using hv)
          have e2 : row (lay (fun k => tb (M i) k && !tb (S c).ab k) (S l.length).pds (S c).h) pd.id = row (S c).h pd.id := by
            refine row_lay_out (A.ids G) (A.ids_ne G) hpd ?_
            rcases this with hv | hv
            · simp [hv]
            · cases h : tb (M i) pd.i
              · rfl
              · have := A.sub G hi hr _ h; rw [hv] at this; cases this
          rw [e2, ← e1, hrb] at hd; cases hd
        · have e1 : row (hp S l.length L c) pd.id = pd.ob := row_lay (A.ids G) (A.ids_ne G) pd hpd hv
          rw [Bool.and_eq_true] at hv
          rw [hrb] at e1
          exact Ob.plain_one (A.alive pd hpd hv.1) k i' j e1.symm
      · have hn : ∀ (r : Nat → Bool), row (lay r (S l.length).pds (S c).h) b = row (S c).h b := fun r => row_lay_ne hb2 (A.ids G) fun pd hm _ e => hx ⟨pd, hm, e⟩
        have e1 : row (hp S l.length L c) b = row (S c).h b := hn _
        rw [hn, ← e1, hrb] at hd; cases hd
  obtain ⟨s1, s2⟩ := lay_back (HS' := hp S l.length (more L i) (i + 1)) A.st hknown hs hst hrows hones
  rw [← g2] at s1 s2
  refine ⟨?_, fun b0 hb0 => s2.loc hb0⟩
  refine A.put G hi hL hr hs.ext (by rw [hD]; exact hx) hi (fun y hy hxy => ?_) s1 (A.stp.trans s2) (fun pd hpd hh => ?_) (fun pd hpd => ?_) (fun pd hpd hh => ?_) fun pd hpd e => absurd e (hne pd hpd)
  · rcases Nat.lt_trichotomy y i with h | h | h
    · have hLy := A.sub G hi hr _ (W.order hi hxi h hxy)
      exact ⟨fun _ => by omega, fun _ => more_of hLy⟩
    · subst h; exact ⟨fun _ => by omega, fun _ => more_self ..⟩
    · rw [more_ne (by omega)]
      refine ⟨fun hh => ?_, fun hh => by omega⟩
      have := (A.cur y hy hxy).1 hh; omega
  · rw [more_ne (hne pd hpd)] at hh
    rw [hs.keep _ (A.low pd hpd)]; exact A.free pd hpd hh
  · rw [g2]; exact Nat.lt_of_lt_of_le (A.low pd hpd) hs.up
  · rw [g1]
    rw [g3] at hh
    cases hlive : (row h' pd.id).live
    · rfl
    · obtain ⟨m', hm', _⟩ := hst.obs pd.id (Nat.lt_of_lt_of_le (A.low pd hpd) hs.up) hlive
      have hm2 := hm'
      rw [hs.keep _ (A.low pd hpd)] at hm'
      have hLp : L pd.i = true := by
        cases h : L pd.i
        · rw [A.free pd hpd h] at hm'; cases hm'
        · rfl
      obtain ⟨k1, _, k3⟩ := hout pd hpd hLp hh
      exact absurd (hs.live m'.c (A.st.old _ _ hm') ⟨pd.id, m', Nat.lt_of_lt_of_le (A.low pd hpd) hs.up, hm2, rfl, hlive⟩) (A.st.left_out hknown (A.low pd hpd) hm' k1 k3)
omit hL hr in
omit A in
theorem reads_x {y : Nat} (hy : y < l.length) {f : Q1} {v : AV} (hDy : (D y).isx = true) (hDi : D i = .q1 f v) (hiy : i < y) (hmy : tb (M y) i = false) : f (S i).t (lay (fun k => tb (M i) k && !tb (S (y + 1)).ab k) (S l.length).pds (S (y + 1)).h) = some v := by
  have W := G.way
  have hok := W.ok y hy
  have hn := W.next y hy
  cases hD : D y <;> rw [hD] at hok hDy hn <;> try (cases hDy; done)
  rename_i fx vx hx nxx
  obtain ⟨_, _, _, _, hrec⟩ := hok
  have hmem := W.rds_mem hDi (y - (i + 1)) (by omega)
  have e : i + 1 + (y - (i + 1)) = y := by omega
  rw [e] at hmem
  have := readsSame_ok (recsOk_ok (r := ⟨i, M i, f (S i).t, v⟩) hmy hrec hmem)
  rw [Go.Abs.absorb_eq, W.lay_eq (Nat.le_of_lt hy) (fun k hk => by rw [Bool.and_eq_true] at hk; have := W.mask_lt hi hk.1; omega)] at this
  rw [hn]; exact this
/-- what is read, wherever it is read -/
theorem At.reads {f : Q1} {v : AV} (hDi : D i = .q1 f v) : f (S i).t (lay (fun k => tb (M i) k && !tb (S c).ab k) (S l.length).pds (S c).h) = some v := by
  have W := G.way
  have hok := W.ok i hi
  rw [hDi] at hok
  obtain ⟨_, _, hv, hh⟩ := hok
  rcases Nat.lt_or_ge i c with hic | hci
  · -- the last one before c that does something
    by_cases hx : ∃ y, i < y ∧ y < c ∧ (D y).isx = true
    · have hlast : ∀ k, ∀ z, z + k = c → (∃ y, i < y ∧ y < z ∧ (D y).isx = true) → (∀ y, z ≤ y → y < c → (D y).isx = false) → ∃ y, i < y ∧ y < c ∧ (D y).isx = true ∧ ∀ y', y < y' → y' < c → (D y').isx = false := by
        have := A.cle
        intro k z hz
        induction z generalizing k with
        | zero => rintro ⟨y, _, h2, _⟩ _; omega
        | succ z ih =>
          intro hex hno
          cases hz' : (D z).isx with
          | true =>
            obtain ⟨y, h1, h2, _⟩ := hex
            exact ⟨z, by omega, by omega, hz', fun y' h3 h4 => hno y' (by omega) h4⟩
          | false =>
            refine ih (k + 1) (by omega) ?_ ?_
            · obtain ⟨y, h1, h2, h3⟩ := hex
              refine ⟨y, h1, ?_, h3⟩
              rcases Nat.lt_or_ge y z with h | h
              · exact h
              · have : y = z := by omega
                rw [this, hz'] at h3; cases h3
            · intro y h1 h2
              rcases Nat.lt_or_ge z y with h | h
              · exact hno y h h2
              · have : y = z := by omega
                rw [this]; exact hz'
      obtain ⟨y, h1, h2, h3, h4⟩ := hlast 0 c rfl hx fun y h5 h6 => by omega
      have hyl : y < l.length := by have := A.cle; omega
      have := reads_x G hi hyl h3 hDi h1 (A.not_before G hi hL hr hyl ((A.cur y hyl h3).2 h2))
      obtain ⟨e1, e2, e3, e4⟩ := W.stay' (c := y + 1) (j := c) h2 A.cle fun y' h5 h6 => h4 y' (by omega) h6
      rw [e1, e3]; exact this
    · have hno : ∀ y, i ≤ y → y < c → (D y).isx = false := fun y h1 h2 => by
        cases h : (D y).isx
        · rfl
        · rcases Nat.lt_or_ge i y with h3 | h3
          · exact absurd ⟨y, h3, h2, h⟩ hx
          · have : y = i := by omega
            rw [this, hDi] at h; cases h
      obtain ⟨e1, e2, e3, e4⟩ := W.stay' (Nat.le_of_lt hic) A.cle hno
      rw [e1, e3]
      rw [W.absorb_eq hi] at hv; exact hv
  · by_cases hx : ∃ y, c ≤ y ∧ y < i ∧ (D y).isx = true
    · have hfirst : ∀ k z, z + k = i → (∃ y, z ≤ y ∧ y < i ∧ (D y).isx = true) → ∃ y, z ≤ y ∧ y < i ∧ (D y).isx = true ∧ ∀ y', z ≤ y' → y' < y → (D y').isx = false := by
        intro k
        induction k with
        | zero => rintro z hz ⟨y, h1, h2, _⟩; omega
        | succ k ih =>
          intro z hz hex
          cases hz' : (D z).isx with
          | true => exact ⟨z, Nat.le_refl _, by omega, hz', fun y' h1 h2 => by omega⟩
          | false =>
            obtain ⟨y, h1, h2, h3⟩ := hex
            have hne : z ≠ y := fun e => by rw [← e, hz'] at h3; cases h3
            obtain ⟨y1, g1, g2, g3, g4⟩ := ih (z + 1) (by omega) ⟨y, by omega, h2, h3⟩
            refine ⟨y1, by omega, g2, g3, fun y' h4 h5 => ?_⟩
            rcases Nat.lt_or_ge z y' with h | h
            · exact g4 y' h h5
            · have : y' = z := by omega
              rw [this]; exact hz'
      obtain ⟨y, h1, h2, h3, h4⟩ := hfirst (i - c) c (by omega) hx
      have hyl : y < l.length := by omega
      have hLy : L y = false := by
        cases h : L y
        · rfl
        · have := (A.cur y hyl h3).1 h; omega
      have hmy : tb (M i) y = false := by
        cases h : tb (M i) y
        · rfl
        · have := A.sub G hi hr y h
          rw [hLy] at this; cases this
      obtain ⟨pre, hpre, hz⟩ := W.hs_mem h3 h2 (Nat.le_of_lt hi)
      rw [hpre] at hh
      have := readsSame_ok (histOk_ok (x := ⟨y, (S y).h, (S y).ab⟩) hmy hh fun z hz' => by
        obtain ⟨z1, z2, z3⟩ := hz z hz'
        cases h : tb (M i) z.i
        · rfl
        · have hzy := W.order (i := z.i) (by omega) z3 z1 h3
          have := W.plan.masks.trans i (M i) z.i (M z.i) (W.mask i hi) (W.mask z.i (by omega)) h y hzy
          rw [hmy] at this; cases this)
      rw [W.absorb_eq hi] at this
      obtain ⟨e1, e2, e3, e4⟩ := W.stay' (c := c) (j := y) h1 (Nat.le_of_lt hyl) h4
      rw [← e1, ← e3]; exact this
    · have hno : ∀ y, c ≤ y → y < i → (D y).isx = false := fun y h1 h2 => by
        cases h : (D y).isx
        · rfl
        · exact absurd ⟨y, h1, h2, h⟩ hx
      obtain ⟨e1, e2, e3, e4⟩ := W.stay' hci (Nat.le_of_lt hi) hno
      rw [← e1, ← e3]
      rw [W.absorb_eq hi] at hv; exact hv
end
end Go.Abs
namespace Go.Abs
variable {P : Program} {X : Orc} {K : Op → Kd} {gs base n : Nat} {rec : Cd} {ops : Array Oper} {ms : List Nat} {t0 : Tm} {H0 : Hp} {nx0 nx1 : Nat} {S : Nat → DS} {D : Nat → DRec} {O : Nat → Oper} {M : Nat → Nat} {ι0 ι : Inj} {w0 w : World} {a0 a : Act} {l : List Oper} {L : Nat → Bool} {c i : Nat}
/-- one operation of a drawn region -/
theorem At.step {rdc : Option Nat} {m : Nat} {Q : Exit → Act → World → Prop} (hcs : CallsOk P X gs base rec rdc m) (G : Given K gs base n rec l ms t0 H0 nx0 nx1 S D O M) (A : At gs base n l t0 H0 nx0 S D O ι0 w0 a0 L c ι a w)
    (hops : ops.toList = l) (hi : i < l.length) (hL : L i = false) (hr : ∀ j, Aft (O i) j → L j = true) (hK : K (O i).op = kOf P X (O i).op) (b0 : Nat) :
    wpOpIn (FW rdc) m P ops Q i (fun a' w' => ∃ c' ι', At gs base n l t0 H0 nx0 S D O ι0 w0 a0 (more L i) c' ι' a' w' ∧
      (b0 < (S c).nx → (∀ f ob kv, D i = .al f ob kv → b0 ≠ (S i).an) → Loc b0 ι (hp S l.length L c) (S c).nx w ι' (hp S l.length (more L i) c') (S c').nx w')) a w := by
  have W := G.way
  have hget : ops[i]? = some (O i) := by rw [← Array.getElem?_toList, hops]; exact W.op i hi
  have hO := A.opds G hi hL hr
  have hnd : kOf P X (O i).op ≠ .no → ∀ c, (O i).op ≠ .defer c := by
    rintro hk c e
    rw [e] at hk; exact hk rfl
  unfold wpOpIn
  rw [hget]
  simp only
  have hok := W.ok i hi
  have still : (∀ f ob kv, D i ≠ .al f ob kv) → b0 < (S c).nx → (∀ f ob kv, D i = .al f ob kv → b0 ≠ (S i).an) → Loc b0 ι (hp S l.length L c) (S c).nx w ι (hp S l.length (more L i) c) (S c).nx w := fun hnal _ _ => by
    rw [A.hp_quiet G hi hL hr hnal]; exact .refl ..
  cases hD : D i with
  | skip =>
    rw [hD] at hok
    rw [if_neg (by rw [A.unwanted G hi hL hr hops hok]; simp)]
    exact ⟨fun _ _ => trivial, c, ι, A.quiet G hi hL hr (by rw [hD]; exact .tuple _ _ .nil) (by rw [hD]; rfl) (by rw [hD]; simp), hD ▸ still (by rw [hD]; simp)⟩
  | q0 f v =>
    rw [hD] at hok
    obtain ⟨hw, hk, hv⟩ := hok
    rw [hK] at hk
    rw [if_pos (A.wanted G hi hL hr hops hw)]
    obtain ⟨x, hx, hrun⟩ := kOf_q0 hk ι (S i).t a.eval hO v hv
    exact wpIn_run (hnd (by rw [hk]; simp)) (by rw [hrun w]; exact ⟨c, ι, A.quiet G hi hL hr (by rw [hD]; exact hx) (by rw [hD]; rfl) (by rw [hD]; simp), hD ▸ still (by rw [hD]; simp)⟩)
  | q1 f v =>
    have hread := A.reads G hi hL hr hD
    rw [hD] at hok
    obtain ⟨hw, hk, _⟩ := hok
    rw [hK] at hk
    rw [if_pos (A.wanted G hi hL hr hops hw)]
    obtain ⟨x, hx, hrun⟩ := kOf_q1 hk gs base ι _ (S c).nx w (S i).t a.eval (A.st_known G hi hr) hO v hread
    exact wpIn_run (hnd (by rw [hk]; simp)) (by rw [hrun]; exact ⟨c, ι, A.quiet G hi hL hr (by rw [hD]; exact hx) (by rw [hD]; rfl) (by rw [hD]; simp), hD ▸ still (by rw [hD]; simp)⟩)
  | al f ob kv =>
    have hfree := A.free _ (W.pds_mem hi hD) hL
    rw [hD] at hok
    obtain ⟨hw, hk, hv⟩ := hok
    rw [hK] at hk
    rw [if_pos (A.wanted G hi hL hr hops hw)]
    obtain ⟨N, hl, hrun⟩ := kOf_al hk ι (S i).t a.eval hO ob kv hv
    obtain ⟨x, ob', hrun, hrel⟩ := hrun w
    obtain ⟨h1, h2⟩ := hrel gs (ι.put (S i).an ⟨w.heap.size, 0, N⟩) (S i).an ⟨w.heap.size, 0, N⟩ (Inj.le_put hfree) (Inj.put_self _ _ _) rfl rfl rfl
    exact wpIn_run (hnd (by rw [hk]; simp)) (by rw [hrun]; exact ⟨c, _, (A.laid G hi hL hr (m := ⟨w.heap.size, 0, N⟩) (w' := w.alloc ob') hD hl rfl h1 h2 rfl rfl rfl rfl).1, fun _ hne => (A.laid G hi hL hr (m := ⟨w.heap.size, 0, N⟩) (w' := w.alloc ob') hD hl rfl h1 h2 rfl rfl rfl rfl).2 b0 (hne _ _ _ rfl)⟩)
  | x f v h' nx' =>
    obtain ⟨hci, hno⟩ := A.turn G hi hL hr (by rw [hD]; rfl)
    obtain ⟨e1, e2, e3, e4⟩ := W.stay' hci (Nat.le_of_lt hi) hno
    rw [hD] at hok
    obtain ⟨hw, hk, _, hv, _⟩ := hok
    rw [hK] at hk
    rw [if_pos (A.wanted G hi hL hr hops hw)]
    rw [W.absorb_eq hi, e1, e2, e3] at hv
    have hst := A.st_known G hi hr
    rcases kOf_x hk with ⟨cl, g, ho, hcl, rfl⟩ | hx
    · exact hcs (O i) ι (S i).t _ (S c).nx a w hO hst cl g ho hcl v h' nx' hv _ Q fun x ι' w' h1 h2 h3 => ⟨i + 1, ι', (A.effect G hi hL hr hD h1 h2 h3).1, fun hb _ => (A.effect G hi hL hr hD h1 h2 h3).2 b0 hb⟩
    · obtain ⟨nx2, x, w', ι', hrun, hn2, h1, h2, h3⟩ := hx rec gs base ι _ (S c).nx w (S i).t a.eval hst hO v h' nx' hv
      refine wpIn_run (hnd (by rw [hk]; simp)) ?_
      rw [hrun]
      rcases hn2 with rfl | ⟨rfl, rfl⟩
      · exact ⟨i + 1, ι', (A.effect G hi hL hr hD h1 h2 h3).1, fun hb _ => (A.effect G hi hL hr hD h1 h2 h3).2 b0 hb⟩
      · exact ⟨i + 1, ι', (A.effect G hi hL hr hD h1 h2 h3).1, fun hb _ => (A.effect G hi hL hr hD h1 h2 h3).2 b0 hb⟩
/-- how many are left -/
def undone (L : Nat → Bool) : Nat → Nat
  | 0 => 0
  | k + 1 => undone L k + (if L k then 0 else 1)
theorem undone_more {L : Nat → Bool} {i : Nat} : ∀ {N : Nat}, (i < N → L i = false → undone (more L i) N + 1 = undone L N) ∧ (N ≤ i → undone (more L i) N = undone L N)
  | 0 => ⟨by omega, fun _ => rfl⟩
  | N + 1 => by
    obtain ⟨h1, h2⟩ := undone_more (L := L) (i := i) (N := N)
    refine ⟨fun hi hL => ?_, fun hi => ?_⟩
    · simp only [undone]
      rcases Nat.lt_or_ge i N with h | h
      · rw [more_ne (by omega), ← h1 h hL]; omega
      · have e : i = N := by omega
        subst e
        rw [h2 (Nat.le_refl _), more_self, hL]; simp
    · simp only [undone]
      rw [more_ne (by omega), h2 (by omega)]
theorem undone_zero {L : Nat → Bool} : ∀ {N : Nat}, undone L N = 0 → ∀ k, k < N → L k = true
  | 0, _, k, hk => by omega
  | N + 1, h, k, hk => by
    simp only [undone] at h
    rcases Nat.lt_or_ge k N with h1 | h1
    · exact undone_zero (by omega) k h1
    · have e : k = N := by omega
      subst e
      cases hL : L k
      · rw [hL] at h; simp at h
      · rfl
theorem binds_eq (e : Edge) : Region.binds .any e = bindsB e := by
  unfold Region.binds bindsB
  cases e.ground <;> rfl
theorem getD_more {listed : Array Bool} {i : Nat} (hi : i < listed.size) : (fun k => (listed.setIfInBounds i true).getD k false) = more (fun k => listed.getD k false) i := by
  funext k
  by_cases e : k = i
  · subst e
    rw [more_self]
    simp [hi]
  · rw [more_ne e]
    simp only [Array.getD_eq_getD_getElem?]
    rw [Array.getElem?_setIfInBounds_ne (fun h => e h.symm)]
theorem draw_walk {rdc : Option Nat} {m : Nat} {Q : Exit → Act → World → Prop} (W : Way K base rec l ms t0 H0 nx0 nx1 S D O M) (hops : ops.toList = l) (I : (Nat → Bool) → Act → World → Prop)
    (hstep : ∀ L a w i, I L a w → i < l.length → L i = false → (∀ j, Aft (O i) j → L j = true) → wpOpIn (FW rdc) m P ops Q i (fun a' w' => I (more L i) a' w') a w)
    (hQ : ∀ L a w, (∀ k, k < l.length → L k = true) → I L a w → Q .normal a w) :
    ∀ (fuel : Nat) (listed : Array Bool) (a : Act) (w : World), listed.size = l.length → I (fun k => listed.getD k false) a w → undone (fun k => listed.getD k false) l.length ≤ fuel →
      wpAnyIn (FW rdc) m P .any ops Q fuel listed a w := by
  have hsz : ops.size = l.length := by rw [← hops]; simp
  have hget : ∀ i, i < l.length → ops[i]? = some (O i) := fun i hi => by rw [← Array.getElem?_toList, hops]; exact W.op i hi
  have done : ∀ (listed : Array Bool), (∀ k, k < l.length → listed.getD k false = true) → Region.ready .any ops listed = [] := by
    intro listed h
    rw [List.eq_nil_iff_forall_not_mem]
    intro i hi
    obtain ⟨h1, o, ho, _⟩ := mem_ready.1 hi
    have hil : i < l.length := by
      rw [← hsz]
      exact (Array.getElem?_eq_some_iff.1 ho).1
    have := h i hil
    simp only [Array.getD_eq_getD_getElem?] at this h1
    cases hl : listed[i]? with
    | none => rw [hl] at this; simp at this
    | some b => rw [hl] at this h1; simp at this h1; rw [this] at h1; cases h1
  intro fuel
  induction fuel with
  | zero =>
    intro listed a w hls A hu
    have hall := undone_zero (Nat.le_zero.1 hu)
    exact ⟨done listed hall, hQ _ a w hall A⟩
  | succ fuel ih =>
    intro listed a w hls A hu
    refine ⟨fun hnil => ?_, fun i hi => ?_⟩
    · refine hQ _ a w ?_ A
      intro k
      induction k using Nat.strongRecOn with
      | _ k ihk =>
        intro hk
        cases hL : listed.getD k false with
        | true => rfl
        | false =>
          have : k ∈ Region.ready .any ops listed := by
            refine mem_ready.2 ⟨?_, O k, hget k hk, fun e he hb => ?_⟩
            · simp only [Array.getD_eq_getD_getElem?] at hL ⊢
              cases hl : listed[k]? with
              | none =>
                have := Array.getElem?_eq_none_iff.1 hl
                omega
              | some b => rw [hl] at hL; simp at hL; simp [hL]
            · rw [binds_eq] at hb
              have hlt := W.plan.masks.edge k (O k) (W.op k hk) e.on ⟨e, by simpa using he, hb, rfl⟩
              exact ihk e.on hlt (by omega)
          rw [hnil] at this; cases this
    · obtain ⟨h1, o, ho, hall⟩ := mem_ready.1 hi
      have hil : i < l.length := by
        rw [← hsz]
        exact (Array.getElem?_eq_some_iff.1 ho).1
      have eo : o = O i := by rw [hget i hil] at ho; cases ho; rfl
      subst eo
      have hL : listed.getD i false = false := by
        simp only [Array.getD_eq_getD_getElem?] at h1 ⊢
        cases hl : listed[i]? with
        | none => rfl
        | some b => rw [hl] at h1; simp at h1; simp [h1]
      have hr : ∀ j, Aft (O i) j → listed.getD j false = true := by
        rintro j ⟨e, he, hb, rfl⟩
        exact hall e (by simpa using he) (by rw [binds_eq]; exact hb)
      refine wpOpIn_mono ?_ (hstep _ a w i A hil hL hr)
      intro a' w' A'
      have e := getD_more (listed := listed) (i := i) (by omega)
      rw [← e] at A'
      refine ih (listed.setIfInBounds i true) a' w' (by simpa using hls) A' ?_
      rw [e]
      have := (undone_more (L := fun k => listed.getD k false) (i := i) (N := l.length)).1 hil hL
      omega
theorem Given.ids (G : Given K gs base n rec l ms t0 H0 nx0 nx1 S D O M) : ∀ pd ∈ (S l.length).pds, nx0 ≤ pd.id ∧ pd.id < nx0 + countAl K l := fun pd hpd => by
  obtain ⟨_, h1, h2, _⟩ := G.way.pds_lt _ (Nat.le_refl _) pd hpd
  have := G.way.an_le l.length (Nat.le_refl _)
  have e : countAl K (l.drop l.length) = 0 := by rw [List.drop_length]; rfl
  rw [e] at this
  exact ⟨h1, by omega⟩
theorem At.start (G : Given K gs base n rec l ms t0 H0 nx0 nx1 S D O M) (ht : TR ι n t0 a.tmps) (hst : St gs base ι H0 nx0 w.heap) :
    At gs base n l t0 H0 nx0 S D O ι w a (fun _ => false) 0 ι a { w with drawn := w.drawn + 1 } := by
  have s0 : S 0 = ⟨t0, H0, nx1, nx0, [], [], [], 0⟩ := G.way.start
  have hids := G.ids
  have hc := G.count
  have htop := G.top
  have hhp : hp S l.length (fun _ => false) 0 = H0 := by
    unfold hp
    rw [lay_none fun pd _ => rfl, s0]
  refine ⟨by simp, by simp, Nat.zero_le _, fun y _ _ => by simp, ht.size, fun d hd => ?_, ?_, ?_, fun pd hpd _ => hst.fresh _ (hids pd hpd).1, fun pd hpd => ?_, fun pd hpd _ => ?_, by simp, rfl, .refl ..⟩
  · obtain ⟨x, hx, hv⟩ := ht.val d hd
    exact ⟨x, hx, by simp, fun _ => hv⟩
  · rw [hhp, s0]; exact hst.more (by show nx0 ≤ nx1; omega) htop
  · rw [hhp, s0]; exact Stp.more hst (by show nx0 ≤ nx1; omega) htop
  · rw [s0]; have := (hids pd hpd).2; show pd.id < nx1; omega
  · rw [s0]; exact hst.dead _ (hids pd hpd).1 (by have := (hids pd hpd).2; omega)
theorem At.all_done (G : Given K gs base n rec l ms t0 H0 nx0 nx1 S D O M) (A : At gs base n l t0 H0 nx0 S D O ι0 w0 a0 L c ι a w) (hlen : l.length ≤ 128) (hall : ∀ k, k < l.length → L k = true) :
    absorb 340282366920938463463374607431768211455 (S l.length).ab (S l.length).pds (S l.length).h = hp S l.length L c ∧ (S l.length).nx = (S c).nx ∧ TR ι n (S l.length).t a.tmps := by
  have W := G.way
  have hno : ∀ y, c ≤ y → y < l.length → (D y).isx = false := fun y h1 h2 => by
    cases hx : (D y).isx
    · rfl
    · have := (A.cur y h2 hx).1 (hall y h2); omega
  obtain ⟨e1, e2, e3, e4⟩ := W.stay' A.cle (Nat.le_refl _) hno
  refine ⟨?_, e2, A.size, G.lim, fun d hd => ?_⟩
  · rw [Go.Abs.absorb_eq, e1, e3]
    refine lay_congr fun pd hpd => ?_
    have hlt := (W.pds_lt _ (Nat.le_refl _) pd hpd).1
    rw [tb_all (by omega), hall _ hlt]
  · obtain ⟨x, hx, h1, h2⟩ := A.tmp d hd
    refine ⟨x, hx, ?_⟩
    by_cases hex : ∃ p, p < l.length ∧ (O p).dst = some d
    · obtain ⟨p, hp, hpd⟩ := hex
      rw [W.tmp_of G.dst5 _ (Nat.le_refl _) p d hp hpd]
      exact h1 p (hall p hp) hpd
    · rw [W.tmp_old G.dst5 _ (Nat.le_refl _) d (Nat.lt_of_lt_of_le hd G.lim) fun p hp hpd => hex ⟨p, hp, hpd⟩]
      exact h2 fun p hp hpd => hex ⟨p, A.inside p hp, hpd⟩
theorem undone_le (L : Nat → Bool) : ∀ N, undone L N ≤ N
  | 0 => Nat.le_refl _
  | N + 1 => by have := undone_le L N; simp only [undone]; split <;> omega
theorem none_done (k : Nat) : (fun j => (Array.replicate k false).getD j false) = fun _ => false := by
  funext j
  rw [Array.getD_eq_getD_getElem?, Array.getElem?_replicate]
  split <;> rfl
/-- the usual way through a region -/
theorem evDrN_ok {rdc : Option Nat} {m : Nat} {id : Nat} {t : Tm} {H : Hp} {nx : Nat} {r : R} {Q : Exit → Act → World → Prop} (hmix : P.follows .mixedOrders = true) (hcs : CallsOk P X gs base rec rdc m) (hB : ∀ p ∈ ops.toList, operB gs n p = true)
    (ht : TR ι n t a.tmps) (hst : St gs base ι H nx w.heap) {ms : List Nat} (hms : planOf ops.toList = some ms) (hlen : ops.toList.length ≤ 128) (htop : nx + countAl (kOf P X) ops.toList ≤ 262144)
    (h : evDr (kOf P X) base rec ops.toList ops.toList ms 0 t H (nx + countAl (kOf P X) ops.toList) nx [] [] [] 0 = r) (hr : ∀ k, r ≠ .fail k)
    (hQ : ∀ a' w' ι' t' H' nx', r = .norm t' H' nx' → Stp base ι H nx w ι' H' nx' w' → St gs base ι' H' nx' w'.heap → TR ι' n t' a'.tmps → Keeps (dsts ops.toList) a a' → a'.defers = a.defers → Q .normal a' w') :
    (Code.region id ops true).wpIn (FW rdc) m P Q a w := by
  obtain ⟨S, D, O, M, W, hend⟩ := way_of hms h hr
  have G : Given (kOf P X) gs base n rec ops.toList ms t H nx (nx + countAl (kOf P X) ops.toList) S D O M := ⟨W, hB, ht.lim, Nat.le_refl _, htop, hst.low⟩
  refine wpIn_region_any hmix (draw_walk W rfl (fun L a' w' => ∃ c ι', At gs base n ops.toList t H nx S D O ι w a L c ι' a' w') ?_ ?_ ops.size (Array.replicate ops.size false) a _ (by simp) ?_ ?_)
  · rintro L a' w' i ⟨c, ι', A⟩ hi hL hr'
    refine wpOpIn_mono ?_ (A.step hcs G rfl hi hL hr' rfl 0)
    rintro a2 w2 ⟨c2, ι2, A2, _⟩
    exact ⟨c2, ι2, A2⟩
  · rintro L a' w' hall ⟨c, ι', A⟩
    obtain ⟨e1, e2, e3⟩ := A.all_done G hlen hall
    rw [e1, e2] at hend
    exact hQ a' w' ι' _ _ _ hend A.stp A.st e3 A.keeps A.defers
  · rw [none_done]
    exact ⟨0, ι, At.start G ht hst⟩
  · have := undone_le (fun k => (Array.replicate ops.size false).getD k false) ops.toList.length
    simpa using this
end Go.Abs
namespace Go.Abs
variable {P : Program} {X : Orc} {gs base n : Nat} {rec : Cd} {ops : Array Oper} {ms : List Nat} {t0 : Tm} {H0 : Hp} {nx0 nx1 : Nat} {S : Nat → DS} {D : Nat → DRec} {O : Nat → Oper} {M : Nat → Nat} {ι0 ι : Inj} {w0 w : World} {a0 a : Act} {l : List Oper} {L : Nat → Bool} {c i : Nat}
/-! ### A map that is written out -/
theorem insD_inv {o : Op} {q : TypeId × Operand × Operand × Operand} (h : insD o = some q) : o = .insert q.1 q.2.1 q.2.2.1 q.2.2.2 := by
  unfold insD at h
  split at h
  · cases h; rfl
  · cases h
theorem mkD_inv {o : Op} (h : mkD o = true) : ∃ t, o = .makeMap t none := by
  unfold mkD at h
  split at h
  · exact ⟨_, rfl⟩
  · cases h
theorem insD_mkD {o : Op} {q : TypeId × Operand × Operand × Operand} (h : insD o = some q) : mkD o = false := by rw [insD_inv h]; rfl
theorem kLit_mk {b : Nat} {o : Op} (h : mkD o = true) : kLit P X b o = .q0 fun _ => some (.map b) := by rw [kLit, h]; rfl
theorem kLit_ins {b : Nat} {o : Op} {q : TypeId × Operand × Operand × Operand} (h : insD o = some q) : kLit P X b o = .q0 fun t => bEl (isLitMap b (opd q.2.1 t)) (some unit) none := by
  rw [kLit, insD_mkD h, h]; rfl
theorem kLit_else {b : Nat} {o : Op} (h : mkD o = false) (h' : insD o = none) : kLit P X b o = kOf P X o := by rw [kLit, h, h']; rfl
theorem countAl_le {b : Nat} : ∀ l : List Oper, countAl (kLit P X b) l ≤ countAl (kOf P X) l
  | [] => Nat.le_refl _
  | o :: l => by
    have ih := countAl_le (b := b) l
    have hle : isAl (kLit P X b) o = true → isAl (kOf P X) o = true := by
      intro h
      cases hm : mkD o.op with
      | true => rw [isAl, kLit_mk hm] at h; cases h
      | false =>
        cases hi : insD o.op with
        | some q => rw [isAl, kLit_ins hi] at h; cases h
        | none => rw [isAl, kLit_else hm hi] at h; exact h
    show bEl (isAl (kLit P X b) o) (Nat.succ (countAl (kLit P X b) l)) (countAl (kLit P X b) l) ≤ bEl (isAl (kOf P X) o) (Nat.succ (countAl (kOf P X) l)) (countAl (kOf P X) l)
    rw [bEl_eq, bEl_eq]
    split
    · rename_i h; rw [if_pos (hle h)]; omega
    · split <;> omega
theorem noMk_ok : ∀ {l : List Oper}, noMk l = true → ∀ o ∈ l, mkD o.op = false
  | [], _, o, ho => by cases ho
  | x :: l, h, o, ho => by
    change bEl (mkD x.op) false (noMk l) = true at h
    rw [bEl_eq] at h
    split at h
    · cases h
    · rename_i hx
      rcases List.mem_cons.1 ho with rfl | ho
      · simpa using hx
      · exact noMk_ok h o ho
theorem oneMk_ok : ∀ {l : List Oper} {i p : Nat}, oneMk l i = some p → ∃ j, p = i + j ∧ j < l.length ∧ (∀ o, l[j]? = some o → mkD o.op = true ∧ o.guard = none) ∧ ∀ k o, l[k]? = some o → mkD o.op = true → k = j
  | [], i, p, h => by cases h
  | x :: l, i, p, h => by
    change bEl (mkD x.op) (bEl (noMk l) (oEl x.guard (some i) fun _ => none) none) (oneMk l (Nat.succ i)) = some p at h
    rw [bEl_eq] at h
    split at h
    · rename_i hx
      rw [bEl_eq] at h
      split at h
      case isFalse => cases h
      rename_i hn
      rw [oEl_eq] at h
      split at h
      case h_2 => cases h
      rename_i hg
      cases h
      refine ⟨0, rfl, by simp, fun o ho => by cases ho; exact ⟨hx, hg⟩, fun k o ho hm => ?_⟩
      cases k with
      | zero => rfl
      | succ k =>
        have := noMk_ok hn o (List.mem_of_getElem? (by simpa using ho))
        rw [hm] at this; cases this
    · rename_i hx
      obtain ⟨j, h1, h2, h3, h4⟩ := oneMk_ok h
      refine ⟨j + 1, by omega, by simp; omega, fun o ho => h3 o (by simpa using ho), fun k o ho hm => ?_⟩
      cases k with
      | zero => cases ho; exact absurd hm hx
      | succ k => have := h4 k o (by simpa using ho) hm; omega
/-- a type of keys -/
def KeyTy (P : Program) (ty kt : TypeId) : Prop := ∃ et, mapD (P.underlying ty) = some (kt, et)
theorem apartK_ok {kt : TypeId} {k : AV} : ∀ {ks : List (TypeId × AV)}, apartK P kt k ks = true → ∀ q ∈ ks, keyEqD (P.underlying kt) k q.2 = some false ∧ keyEqD (P.underlying q.1) q.2 k = some false
  | [], _, q, hq => by cases hq
  | x :: ks, h, q, hq => by
    change oEl (keyEqD (P.underlying kt) k x.2) false (fun b => bEl b false (oEl (keyEqD (P.underlying x.1) x.2 k) false fun b => bEl b false (apartK P kt k ks))) = true at h
    rw [oEl_eq] at h
    split at h
    · cases h
    rename_i b1 h1
    rw [bEl_eq] at h
    split at h
    · cases h
    rename_i hb1
    rw [oEl_eq] at h
    split at h
    · cases h
    rename_i b2 h2
    rw [bEl_eq] at h
    split at h
    · cases h
    rename_i hb2
    rcases List.mem_cons.1 hq with rfl | hq
    · simp only [Bool.not_eq_true] at hb1 hb2
      subst hb1; subst hb2
      exact ⟨h1, h2⟩
    · exact apartK_ok h q hq
structure InsAt (P : Program) (ds : List Nat) (ks : List (TypeId × AV)) (l : List Oper) (i : Nat) (o : Oper) (q : TypeId × Operand × Operand × Operand) : Prop where
  guard : o.guard = none
  dst : o.dst = none
  const : isK q.2.2.1 = true
  key : ∃ kt, KeyTy P q.1 kt ∧ keyD (P.underlying kt) = true
  fix : ∀ d, q.2.2.2 = .tmp d → d ∈ ds ∨ ∃ p o', p < i ∧ l[p]? = some o' ∧ o'.dst = some d
  old : ∀ kt, KeyTy P q.1 kt → ∀ p ∈ ks, keyEqD (P.underlying kt) (opd q.2.2.1 tms) p.2 = some false
  other : ∀ kt, KeyTy P q.1 kt → ∀ j o' q', j ≠ i → l[j]? = some o' → insD o'.op = some q' → keyEqD (P.underlying kt) (opd q.2.2.1 tms) (opd q'.2.2.1 tms) = some false
/-- a key known before has not the key of one that comes -/
def KeysOld (P : Program) (ks : List (TypeId × AV)) (l : List Oper) : Prop := ∀ p ∈ ks, ∀ (j : Nat) o' q', l[j]? = some o' → insD o'.op = some q' → keyEqD (P.underlying p.1) p.2 (opd q'.2.2.1 tms) = some false
theorem keyTy_uniq {ty kt kt' : TypeId} (h : KeyTy P ty kt) (h' : KeyTy P ty kt') : kt' = kt := by
  obtain ⟨e, h⟩ := h
  obtain ⟨e', h'⟩ := h'
  rw [h] at h'; cases h'; rfl
theorem insOk_ok : ∀ {l : List Oper} {ds : List Nat} {ks : List (TypeId × AV)}, insOk P l ds ks = true → (∀ i o q, l[i]? = some o → insD o.op = some q → InsAt P ds ks l i o q) ∧ KeysOld P ks l
  | [], _, _, _ => ⟨fun i o q ho => by simp at ho, fun p _ j o' q' ho => by simp at ho⟩
  | x :: l, ds, ks, h => by
    change oEl (insD x.op) (insOk P l (oEl x.dst ds fun d => d :: ds) ks) (fun q => oEl x.guard (oEl x.dst (bEl (isK q.2.2.1) (bEl (fixB ds q.2.2.2) (mapK P q.1 false fun kt _ => bEl (keyD (P.underlying kt)) (fAV (opd q.2.2.1 tms) fun k => bEl (apartK P kt k ks) (insOk P l ds ((kt, k) :: ks)) false) false) false) false) fun _ => false) fun _ => false) = true at h
    rw [oEl_eq] at h
    split at h
    · rename_i hn
      obtain ⟨h1, h2⟩ := insOk_ok h
      refine ⟨fun i o q ho hq => ?_, fun p hp j o' q' ho hq => ?_⟩
      · cases i with
        | zero => cases ho; rw [hn] at hq; cases hq
        | succ i =>
          obtain ⟨g1, g2, g3, g4, g5, g6, g7⟩ := h1 i o q (by simpa using ho) hq
          refine ⟨g1, g2, g3, g4, fun d hd => ?_, g6, fun kt hkt j o' q' hj ho' hq' => ?_⟩
          · rcases g5 d hd with h3 | ⟨p, o', h3, h4, h5⟩
            · rw [oEl_eq] at h3
              split at h3
              · exact .inl h3
              · rename_i d0 hd0
                rcases List.mem_cons.1 h3 with rfl | h3
                · exact .inr ⟨0, x, by omega, rfl, hd0⟩
                · exact .inl h3
            · exact .inr ⟨p + 1, o', by omega, by simpa using h4, h5⟩
          · cases j with
            | zero => cases ho'; rw [hn] at hq'; cases hq'
            | succ j => exact g7 kt hkt j o' q' (by omega) (by simpa using ho') hq'
      · cases j with
        | zero => cases ho; rw [hn] at hq; cases hq
        | succ j => exact h2 p hp j o' q' (by simpa using ho) hq
    · rename_i q0 hq0
      rw [oEl_eq] at h
      split at h
      case h_2 => cases h
      rename_i hg
      rw [oEl_eq] at h
      split at h
      case h_2 => cases h
      rename_i hd
      rw [bEl_eq] at h
      split at h
      case isFalse => cases h
      rename_i hk
      rw [bEl_eq] at h
      split at h
      case isFalse => cases h
      rename_i hf
      rw [mapK, oEl_eq] at h
      split at h
      · cases h
      rename_i km hkm
      rw [bEl_eq] at h
      split at h
      case isFalse => cases h
      rename_i hkd
      rw [fAV_eq, bEl_eq] at h
      split at h
      case isFalse => cases h
      rename_i hap
      have hap := apartK_ok hap
      have hkt : KeyTy P q0.1 km.1 := ⟨km.2, hkm⟩
      obtain ⟨h1, h2⟩ := insOk_ok h
      refine ⟨fun i o q ho hq => ?_, fun p hp j o' q' ho hq => ?_⟩
      · cases i with
        | zero =>
          cases ho
          rw [hq0] at hq; cases hq
          refine ⟨hg, hd, hk, ⟨_, hkt, hkd⟩, fun d hd' => ?_, fun kt hkt' p hp => ?_, fun kt hkt' j o' q' hj ho' hq' => ?_⟩
          · rw [hd'] at hf
            refine .inl ?_
            have : memN d ds = true := hf
            rw [memN_eq] at this; simpa using this
          · rw [keyTy_uniq hkt hkt']; exact (hap p hp).1
          · cases j with
            | zero => exact absurd rfl hj
            | succ j => rw [keyTy_uniq hkt hkt']; exact h2 _ (List.mem_cons_self ..) j o' q' (by simpa using ho') hq'
        | succ i =>
          obtain ⟨g1, g2, g3, g4, g5, g6, g7⟩ := h1 i o q (by simpa using ho) hq
          refine ⟨g1, g2, g3, g4, fun d hd => ?_, fun kt hkt' p hp => g6 kt hkt' p (List.mem_cons_of_mem _ hp), fun kt hkt' j o' q' hj ho' hq' => ?_⟩
          · rcases g5 d hd with h3 | ⟨p, o', h3, h4, h5⟩
            · exact .inl h3
            · exact .inr ⟨p + 1, o', by omega, by simpa using h4, h5⟩
          · cases j with
            | zero =>
              cases ho'
              rw [hq0] at hq'; cases hq'
              exact g6 kt hkt' _ (List.mem_cons_self ..)
            | succ j => exact g7 kt hkt' j o' q' (by omega) (by simpa using ho') hq'
      · cases j with
        | zero =>
          cases ho
          rw [hq0] at hq; cases hq
          exact (hap p hp).2
        | succ j => exact h2 p (List.mem_cons_of_mem _ hp) j o' q' (by simpa using ho) hq
theorem mem_entL {t : Tm} {p : AV × AV} : ∀ {l : List Oper}, p ∈ entL l t ↔ ∃ (j : Nat) (o : Oper), l[j]? = some o ∧ insE o t = some p
  | [] => by simp [entL]
  | x :: l => by
    show p ∈ oEl (insE x t) (entL l t) (fun e => e :: entL l t) ↔ _
    rw [oEl_eq]
    have ih := mem_entL (t := t) (p := p) (l := l)
    constructor
    · intro h
      have : insE x t = some p ∨ p ∈ entL l t := by
        split at h
        · exact .inr h
        · rename_i e he
          rcases List.mem_cons.1 h with rfl | h
          · exact .inl he
          · exact .inr h
      rcases this with h | h
      · exact ⟨0, x, rfl, h⟩
      · obtain ⟨j, o, h1, h2⟩ := ih.1 h
        exact ⟨j + 1, o, by simpa using h1, h2⟩
    · rintro ⟨j, o, h1, h2⟩
      cases j with
      | zero =>
        cases h1
        rw [h2]; exact List.mem_cons_self ..
      | succ j =>
        have := ih.2 ⟨j, o, by simpa using h1, h2⟩
        split
        · exact this
        · exact List.mem_cons_of_mem _ this
end Go.Abs
namespace Go.Abs
variable {P : Program} {X : Orc} {gs base n : Nat} {rec : Cd} {ops : Array Oper} {ms : List Nat} {t0 : Tm} {H0 : Hp} {nx0 nx1 : Nat} {S : Nat → DS} {D : Nat → DRec} {O : Nat → Oper} {M : Nat → Nat} {ι0 ι : Inj} {w0 w : World} {a0 a : Act} {l : List Oper} {L : Nat → Bool} {c i : Nat}
/-- what is put in so far -/
structure Gh (E : Nat → Option (AV × AV)) (w0 : World) (b pj : Nat) (L : Nat → Bool) (ι : Inj) (H : Hp) (nx : Nat) (w : World) : Prop where
  off : L pj = false → ι b = none ∧ ∀ j, L j = true → E j = none
  on : L pj = true → ∃ (m : Im) (ents : Array MapEntry) (k : Nat) (es : List (AV × AV)), ι b = some m ∧ w0.heap.size ≤ m.c ∧ m.c < w.heap.size ∧ ¬ Live ι H nx m.c ∧ w.heap[m.c]? = some (.map ents k) ∧ ERs ι es ents.toList ∧ ∀ p, p ∈ es ↔ ∃ j, L j = true ∧ E j = some p
theorem Gh.other {E : Nat → Option (AV × AV)} {b pj : Nat} {ι' : Inj} {H H' : Hp} {nx nx' : Nat} {w' : World} (h : Gh E w0 b pj L ι H nx w) (hi : i ≠ pj) (hE : E i = none) (hl : Loc b ι H nx w ι' H' nx' w') : Gh E w0 b pj (more L i) ι' H' nx' w' := by
  refine ⟨fun hL => ?_, fun hL => ?_⟩
  · rw [more_ne (fun e => hi e.symm)] at hL
    obtain ⟨h1, h2⟩ := h.off hL
    refine ⟨by rw [hl.keep]; exact h1, fun j hj => ?_⟩
    by_cases e : j = i
    · subst e; exact hE
    · rw [more_ne e] at hj; exact h2 j hj
  · rw [more_ne (fun e => hi e.symm)] at hL
    obtain ⟨m, ents, k, es, h1, h2, h3, h4, h5, h6, h7⟩ := h.on hL
    refine ⟨m, ents, k, es, hl.ext _ _ h1, h2, Nat.lt_of_lt_of_le h3 hl.size, fun h' => h4 (hl.live _ h3 h'), by rw [hl.same _ h3 h4]; exact h5, h6.mono hl.ext, fun p => ?_⟩
    rw [h7 p]
    constructor
    · rintro ⟨j, hj, he⟩; exact ⟨j, more_of hj, he⟩
    · rintro ⟨j, hj, he⟩
      by_cases e : j = i
      · subst e; rw [hE] at he; cases he
      · rw [more_ne e] at hj; exact ⟨j, hj, he⟩
/-- a row at last -/
theorem lay_live {ι0 : Inj} {H0 H H' : Hp} {nx0 nx : Nat} {w0 w : World} (hst : St gs base ι H nx w.heap) (h0 : Stp base ι0 H0 nx0 w0 ι H nx w) {b : Nat} (hb : b < nx) (hb0 : nx0 ≤ b) {ob : Ob} {m : Im} (hm : ι b = some m) (hc : w0.heap.size ≤ m.c)
    (hn : ¬ Live ι H nx m.c) (ho : ObR gs ι m ob w.heap[m.c]?) (hself : row H' b = ob) (hrow : ∀ x, x < 262144 → x ≠ b → row H' x = row H x) : St gs base ι H' nx w.heap ∧ Stp base ι0 H0 nx0 w0 ι H' nx w := by
  have hlim := hst.lim
  have old : ∀ x mm, x < nx → x ≠ b → ι x = some mm → (row H' x).live = true → (row H x).live = true ∧ mm.c ≠ m.c := fun x mm hx hxb e hl => by
    rw [hrow x (by omega) hxb] at hl
    exact ⟨hl, fun ec => hn ⟨x, mm, hx, e, ec, hl⟩⟩
  refine ⟨⟨hst.glob, hst.lim, hst.low, hst.fresh, fun x hx hx' => ?_, hst.old, fun x hx hl => ?_, fun x y m1 m2 hx hy e1 e2 hcc l1 l2 => ?_, hst.sep⟩,
    ⟨h0.ext, h0.size, h0.up, h0.same, fun c hc' hl => ?_, h0.os, h0.output, h0.tape, h0.keep, fun x k i j hx hr => ?_⟩⟩
  · rw [hrow x hx' (by omega)]; exact hst.dead x hx hx'
  · by_cases e : x = b
    · subst e; exact ⟨m, hm, by rw [hself]; exact ho⟩
    · rw [hrow x (by omega) e] at hl ⊢; exact hst.obs x hx hl
  · by_cases f1 : x = b
    · by_cases f2 : y = b
      · omega
      · subst f1
        rw [hm] at e1; cases e1
        exact absurd hcc.symm (old y m2 hy f2 e2 l2).2
    · by_cases f2 : y = b
      · subst f2
        rw [hm] at e2; cases e2
        exact absurd hcc (old x m1 hx f1 e1 l1).2
      · exact hst.inj x y m1 m2 hx hy e1 e2 hcc (old x m1 hx f1 e1 l1).1 (old y m2 hy f2 e2 l2).1
  · obtain ⟨x, mm, hx, e, ec, hl⟩ := hl
    by_cases f : x = b
    · subst f; rw [hm] at e; cases e; omega
    · exact h0.live c hc' ⟨x, mm, hx, e, ec, (old x mm hx f e hl).1⟩
  · obtain ⟨o1, o2⟩ := h0.one x k i j hx hr
    exact ⟨by rw [hrow x (by have := h0.up; omega) (by omega)]; exact o1, o2⟩
/-- no key of those that are there -/
theorem find_none {kt : TypeId} {d : TypeDesc} (hd : P.underlying kt = some d) {j : AV} {x : Value} (hx : VR ι j x) : ∀ {es : List (AV × AV)} {l : List MapEntry} (i : Nat), ERs ι es l → (∀ p ∈ es, keyEqD (P.underlying kt) j p.1 = some false) → Instr.findNow d x l i = some none
  | _, _, i, .nil, _ => rfl
  | _, _, i, .cons p e l l' hk hv ht, h => by
    obtain ⟨h1, _⟩ := same_ok hd (h p (List.mem_cons_self ..)) hx hk
    simpa [Instr.findNow, h1] using find_none hd hx (i + 1) ht fun q hq => h q (List.mem_cons_of_mem _ hq)
variable {b pj : Nat}
/-- what a place of the region puts in -/
noncomputable def putIn (l : List Oper) (S : Nat → DS) (j : Nat) : Option (AV × AV) := (l[j]?).bind fun o => insE o (S j).t
structure LitR (P : Program) (X : Orc) (gs base n : Nat) (rec : Cd) (l : List Oper) (ms : List Nat) (t0 : Tm) (H0 : Hp) (nx0 b pj : Nat) (S : Nat → DS) (D : Nat → DRec) (O : Nat → Oper) (M : Nat → Nat) : Prop where
  given : Given (kLit P X b) gs base n rec l ms t0 H0 nx0 (b + 1) S D O M
  ins : ∀ i o q, l[i]? = some o → insD o.op = some q → InsAt P [] [] l i o q
  pl : pj < l.length
  isMk : mkD (O pj).op = true ∧ (O pj).guard = none
  only : ∀ k o, l[k]? = some o → mkD o.op = true → k = pj
  top : nx0 + countAl (kLit P X b) l ≤ b
theorem const_opd {x : Operand} (h : isK x = true) (t t' : Tm) : opd x t = opd x t' := by cases x <;> first | rfl | cases h
theorem LitR.keyOf (T : LitR P X gs base n rec l ms t0 H0 nx0 b pj S D O M) {j : Nat} {p : AV × AV} (h : putIn l S j = some p) : ∃ o q, l[j]? = some o ∧ insD o.op = some q ∧ p = (opd q.2.2.1 tms, opd q.2.2.2 (S j).t) := by
  unfold putIn at h
  cases ho : l[j]? with
  | none => rw [ho] at h; cases h
  | some o =>
    rw [ho, Option.bind_some, insE, oEl_eq] at h
    split at h
    · cases h
    rename_i q hq
    cases h
    exact ⟨o, q, rfl, hq, by rw [const_opd (T.ins j o q ho hq).const (S j).t tms]⟩
theorem LitR.an_ne (T : LitR P X gs base n rec l ms t0 H0 nx0 b pj S D O M) {i : Nat} (hi : i < l.length) {f : A0} {ob : Ob} {kv : Nat → AV} (hD : D i = .al f ob kv) : b ≠ (S i).an := by
  have hmem := T.given.way.pds_mem hi hD
  have := (T.given.ids _ hmem).2
  have := T.top
  intro e
  have : (⟨i, (S i).an, ob⟩ : Pd).id = b := e.symm
  omega
theorem LitR.keyTy (T : LitR P X gs base n rec l ms t0 H0 nx0 b pj S D O M) : True := trivial
/-- where a written map stands -/
structure AtL (gs base n : Nat) (l : List Oper) (t0 : Tm) (H0 : Hp) (nx0 b pj : Nat) (S : Nat → DS) (D : Nat → DRec) (O : Nat → Oper) (ι0 : Inj) (w0 : World) (a0 : Act) (L : Nat → Bool) (c : Nat) (ι : Inj) (a : Act) (w : World) : Prop where
  at_ : At gs base n l t0 H0 nx0 S D O ι0 w0 a0 L c ι a w
  gh : Gh (putIn l S) w0 b pj L ι (hp S l.length L c) (S c).nx w
  big : b < (S c).nx
section
variable (T : LitR P X gs base n rec l ms t0 H0 nx0 b pj S D O M) (A : AtL gs base n l t0 H0 nx0 b pj S D O ι0 w0 a0 L c ι a w) (hi : i < l.length) (hL : L i = false) (hr : ∀ j, Aft (O i) j → L j = true)
include T A hi hL hr
theorem AtL.row_dead (h : ι b = none) : row (hp S l.length L c) b = .dead := by
  cases hl : (row (hp S l.length L c) b).live with
  | true =>
    obtain ⟨m, e, _⟩ := A.at_.st.obs b A.big hl
    rw [h] at e; cases e
  | false =>
    cases hh : row (hp S l.length L c) b <;> rw [hh] at hl <;> first | rfl | cases hl
/-- the map is made -/
theorem AtL.made {rdc : Option Nat} {m : Nat} {Q : Exit → Act → World → Prop} (hops : ops.toList = l) (hpi : i = pj) :
    wpOpIn (FW rdc) m P ops Q i (fun a' w' => ∃ c' ι', AtL gs base n l t0 H0 nx0 b pj S D O ι0 w0 a0 (more L i) c' ι' a' w') a w := by
  have G := T.given
  have W := G.way
  have hget : ops[i]? = some (O i) := by rw [← Array.getElem?_toList, hops]; exact W.op i hi
  have hmk : mkD (O i).op = true := by rw [hpi]; exact T.isMk.1
  have hgd : (O i).guard = none := by rw [hpi]; exact T.isMk.2
  obtain ⟨ty, hop⟩ := mkD_inv hmk
  have hok := W.ok i hi
  have hk := kLit_mk (P := P) (X := X) (b := b) hmk
  have hw : Wd l (O i) (S i).t := .inl hgd
  obtain ⟨f, v, hD, hv⟩ : ∃ f v, D i = .q0 f v ∧ v = .map b := by
    cases hD : D i <;> rw [hD] at hok
    case skip =>
      obtain ⟨g, _, _, hg, _⟩ := hok
      rw [hgd] at hg; cases hg
    case q0 f v =>
      obtain ⟨_, h1, h2⟩ := hok
      rw [hk] at h1
      injection h1 with h1
      rw [← h1] at h2
      exact ⟨f, v, rfl, (Option.some.inj h2).symm⟩
    case q1 f v => have h1 := hok.2.1; rw [hk] at h1; cases h1
    case al f ob kv => have h1 := hok.2.1; rw [hk] at h1; cases h1
    case x f v h nx => have h1 := hok.2.1; rw [hk] at h1; cases h1
  have hnal : ∀ f ob kv, D i ≠ .al f ob kv := by rw [hD]; simp
  have hhp := A.at_.hp_quiet G hi hL hr hnal
  have hpL : L pj = false := by rw [← hpi]; exact hL
  obtain ⟨hfree, hE⟩ := A.gh.off hpL
  have hdead := A.row_dead T hi hL hr hfree
  have hne : ∀ pd ∈ (S l.length).pds, pd.i ≠ i := fun pd hpd e => by
    obtain ⟨_, _, _, f, kv, hD', _⟩ := W.pds_lt l.length (Nat.le_refl _) pd hpd
    rw [e] at hD'; exact hnal _ _ _ hD'
  have hge : nx0 ≤ b := by have := T.top; omega
  let mm : Im := ⟨w.heap.size, 0, 0⟩
  obtain ⟨s1, s2⟩ := lay_new (HS' := hp S l.length L c) (w' := w.alloc (.map #[] 0)) (m := mm) (o := .map #[] 0) (ob := .dead) A.at_.st A.at_.stp A.big hge G.low hfree rfl trivial rfl rfl rfl rfl hdead fun _ _ _ => rfl
  have hx : VR (ι.put b mm) ((D i).val (S i).an) (.map (some w.heap.size)) := by
    rw [hD, hv]
    exact .map b mm (Inj.put_self _ _ _)
  have hnbi : b ≠ b → False := fun h => h rfl
  unfold wpOpIn
  rw [hget]
  simp only
  rw [if_pos (by simp [Region.wanted, hgd])]
  have hrun : (execOp a.eval (O i)).run P w = .ok (.value (.map (some w.heap.size))) (w.alloc (.map #[] 0)) := by
    simp only [execOp, hop, Instr.makeMap, Option.map_none, Sem.run_bind, Result.andThen, Sem.run_pure]; rfl
  refine wpIn_run (by rw [hop]; simp) ?_
  rw [hrun]
  refine ⟨c, ι.put b mm, ?_, ?_, A.big⟩
  · refine A.at_.put G hi hL hr (Inj.le_put hfree) hx A.at_.cle (fun y hy hxy => ?_) (by rw [hhp]; exact s1) (by rw [hhp]; exact s2) (fun pd hpd hh => ?_) A.at_.low A.at_.dead fun pd hpd e => absurd e (hne pd hpd)
    · have : y ≠ i := fun e => by subst e; rw [hD] at hxy; cases hxy
      rw [more_ne this]; exact A.at_.cur y hy hxy
    · rw [more_ne (hne pd hpd)] at hh
      have hpb : pd.id ≠ b := by have := (G.ids pd hpd).2; have := T.top; omega
      rw [Inj.put_ne hpb]; exact A.at_.free pd hpd hh
  · rw [hhp]
    refine ⟨fun h => (by rw [hpi, more_self] at h; cases h), fun _ => ⟨mm, #[], 0, [], Inj.put_self _ _ _, A.at_.stp.size, by show w.heap.size < (w.heap.push _).size; simp, ?_, ?_, .nil, fun p => ?_⟩⟩
    · rintro ⟨x, m', hx', e, ec, hl⟩
      by_cases f' : x = b
      · subst f'; rw [hdead] at hl; cases hl
      · rw [Inj.put_ne f'] at e
        have := A.at_.st.old x m' e
        have ec : m'.c = w.heap.size := ec
        omega
    · show (w.heap.push (Obj.map #[] 0))[w.heap.size]? = _
      rw [Array.getElem?_push_size]
    · constructor
      · intro h; cases h
      · rintro ⟨j, hj, he⟩
        by_cases e : j = i
        · subst e
          obtain ⟨o, q, ho, hq, _⟩ := T.keyOf he
          rw [W.op j hi] at ho; cases ho
          rw [insD_mkD hq] at hmk; cases hmk
        · rw [more_ne e] at hj
          rw [hE j hj] at he; cases he
/-- an entry is put in -/
theorem AtL.entry {rdc : Option Nat} {m : Nat} {Q : Exit → Act → World → Prop} (hops : ops.toList = l) {q : TypeId × Operand × Operand × Operand} (hq : insD (O i).op = some q) :
    wpOpIn (FW rdc) m P ops Q i (fun a' w' => ∃ c' ι', AtL gs base n l t0 H0 nx0 b pj S D O ι0 w0 a0 (more L i) c' ι' a' w') a w := by
  have G := T.given
  have W := G.way
  have hget : ops[i]? = some (O i) := by rw [← Array.getElem?_toList, hops]; exact W.op i hi
  have hI := T.ins i (O i) q (W.op i hi) hq
  have hop := insD_inv hq
  have hok := W.ok i hi
  have hk := kLit_ins (P := P) (X := X) (b := b) hq
  obtain ⟨f, v, hD, hv, hlit⟩ : ∃ f v, D i = .q0 f v ∧ v = unit ∧ isLitMap b (opd q.2.1 (S i).t) = true := by
    cases hD : D i <;> rw [hD] at hok
    case skip =>
      obtain ⟨g, _, _, hg, _⟩ := hok
      rw [hI.guard] at hg; cases hg
    case q0 f v =>
      obtain ⟨_, h1, h2⟩ := hok
      rw [hk] at h1
      injection h1 with h1
      rw [← h1] at h2
      change bEl (isLitMap b (opd q.2.1 (S i).t)) (some unit) none = some v at h2
      rw [bEl_eq] at h2
      split at h2
      · rename_i hl; exact ⟨f, v, rfl, (Option.some.inj h2).symm, hl⟩
      · cases h2
    case q1 f v => have h1 := hok.2.1; rw [hk] at h1; cases h1
    case al f ob kv => have h1 := hok.2.1; rw [hk] at h1; cases h1
    case x f v h nx => have h1 := hok.2.1; rw [hk] at h1; cases h1
  have hnal : ∀ f ob kv, D i ≠ .al f ob kv := by rw [hD]; simp
  have hhp := A.at_.hp_quiet G hi hL hr hnal
  have hne : ∀ pd ∈ (S l.length).pds, pd.i ≠ i := fun pd hpd e => by
    obtain ⟨_, _, _, f, kv, hD', _⟩ := W.pds_lt l.length (Nat.le_refl _) pd hpd
    rw [e] at hD'; exact hnal _ _ _ hD'
  have hO := A.at_.opds G hi hL hr
  have hopn : opnds (O i).op = [q.2.1, q.2.2.1, q.2.2.2] := by rw [hop]; rfl
  have hm := hO q.2.1 (mem1 hopn)
  have hkey := hO q.2.2.1 (mem2 hopn)
  have hval := hO q.2.2.2 (mem3 hopn)
  rw [isLitMap, onMap_eq] at hlit
  split at hlit
  case h_2 => cases hlit
  rename_i b' e
  obtain rfl : b' = b := Nat.eq_of_beq_eq_true hlit
  rw [e] at hm
  obtain ⟨mm, hmi, ex⟩ := hm.map_inv
  have hpL : L pj = true := by
    cases h : L pj
    · rw [(A.gh.off h).1] at hmi; cases hmi
    · rfl
  have hip : i ≠ pj := fun e => by rw [e, hpL] at hL; cases hL
  obtain ⟨m1, ents, k, es, g1, g2, g3, g4, g5, g6, g7⟩ := A.gh.on hpL
  rw [hmi] at g1; cases g1
  obtain ⟨kt, ⟨et, hmd⟩, hkd⟩ := hI.key
  have hty := mapD_inv hmd
  cases hkt : P.underlying kt with
  | none => rw [hkt] at hkd; cases hkd
  | some d =>
  have hfind : Instr.findNow d (a.eval q.2.2.1) ents.toList 0 = some none := by
    refine find_none hkt hkey 0 g6 fun p hp => ?_
    obtain ⟨j, hj, he⟩ := (g7 p).1 hp
    obtain ⟨o', q', ho', hq', rfl⟩ := T.keyOf he
    rw [const_opd hI.const (S i).t tms]
    exact hI.other kt ⟨et, hmd⟩ j o' q' (fun e => by rw [e, hL] at hj; cases hj) ho' hq'
  rw [hkt] at hkd
  have hrun : (execOp a.eval (O i)).run P w = .ok .skip (World.setB w mm.c (.map (ents.push ⟨a.eval q.2.2.1, a.eval q.2.2.2, k⟩) (k + 1))) := by
    have h1 : (Instr.mapUpdate q.1 (a.eval q.2.1) (a.eval q.2.2.1) (a.eval q.2.2.2)).run P w = .ok () (World.setB w mm.c (.map (ents.push ⟨a.eval q.2.2.1, a.eval q.2.2.2, k⟩) (k + 1))) := by
      unfold Instr.mapUpdate
      simp only [Sem.run_bind, run_underlying hty, Result.andThen, ex, getObj_ok g5 (fun _ _ _ => by simp), checkKey_ok hkt hkd false 9999 (a.eval q.2.2.1) w, Instr.findKey, run_underlying hkt, hfind, Sem.run_pure, setObj_ok (P := P) g5 (fun _ _ _ => by simp)]
    simp only [execOp, hop, Sem.run_bind, Sem.run_pure, h1, Result.andThen]
  unfold wpOpIn
  rw [hget]
  simp only
  rw [if_pos (by simp [Region.wanted, hI.guard])]
  refine wpIn_run (by rw [hop]; simp) ?_
  rw [hrun]
  have s1 := A.at_.st.off g4 (.map (ents.push ⟨a.eval q.2.2.1, a.eval q.2.2.2, k⟩) (k + 1))
  have s2 := A.at_.stp.off g2 (.map (ents.push ⟨a.eval q.2.2.1, a.eval q.2.2.2, k⟩) (k + 1))
  refine ⟨c, ι, ?_, ?_, A.big⟩
  · refine A.at_.put G hi hL hr (.refl _) (by rw [hD, hv]; exact .tuple _ _ .nil) A.at_.cle (fun y hy hxy => ?_) (by rw [hhp]; exact s1) (by rw [hhp]; exact s2) (fun pd hpd hh => ?_) A.at_.low A.at_.dead fun pd hpd e => absurd e (hne pd hpd)
    · have : y ≠ i := fun e => by subst e; rw [hD] at hxy; cases hxy
      rw [more_ne this]; exact A.at_.cur y hy hxy
    · rw [more_ne (hne pd hpd)] at hh; exact A.at_.free pd hpd hh
  · rw [hhp]
    refine ⟨fun h => (by rw [more_of hpL] at h; cases h), fun _ => ⟨mm, ents.push ⟨a.eval q.2.2.1, a.eval q.2.2.2, k⟩, k + 1, es ++ [(opd q.2.2.1 (S i).t, opd q.2.2.2 (S i).t)], hmi, g2, ?_, g4, ?_, ?_, fun p => ?_⟩⟩
    · show _ < (w.heap.setIfInBounds _ _).size
      rw [Array.size_setIfInBounds]; exact g3
    · show (w.heap.setIfInBounds mm.c _)[mm.c]? = _
      rw [Array.getElem?_setIfInBounds_self_of_lt g3]
    · rw [Array.toList_push]; exact ERs.push g6 hkey hval
    · have hme : putIn l S i = some (opd q.2.2.1 (S i).t, opd q.2.2.2 (S i).t) := by
        rw [putIn, W.op i hi, Option.bind_some, insE, hq]; rfl
      rw [List.mem_append, g7 p, List.mem_singleton]
      constructor
      · rintro (⟨j, hj, he⟩ | rfl)
        · exact ⟨j, more_of hj, he⟩
        · exact ⟨i, more_self .., hme⟩
      · rintro ⟨j, hj, he⟩
        by_cases e : j = i
        · subst e
          rw [hme] at he
          exact .inr (Option.some.inj he).symm
        · rw [more_ne e] at hj; exact .inl ⟨j, hj, he⟩
/-- one operation -/
theorem AtL.step {rdc : Option Nat} {m : Nat} {Q : Exit → Act → World → Prop} (hcs : CallsOk P X gs base rec rdc m) (hops : ops.toList = l) :
    wpOpIn (FW rdc) m P ops Q i (fun a' w' => ∃ c' ι', AtL gs base n l t0 H0 nx0 b pj S D O ι0 w0 a0 (more L i) c' ι' a' w') a w := by
  have W := T.given.way
  by_cases hpi : i = pj
  · exact A.made T hi hL hr hops hpi
  cases hq : insD (O i).op with
  | some q => exact A.entry T hi hL hr hops hq
  | none =>
    have hmk : mkD (O i).op = false := by
      cases h : mkD (O i).op
      · rfl
      · exact absurd (T.only i _ (W.op i hi) h) hpi
    refine wpOpIn_mono ?_ (A.at_.step hcs T.given hops hi hL hr (kLit_else hmk hq) b)
    rintro a' w' ⟨c', ι', A', hloc⟩
    have hloc := hloc A.big fun f ob kv hD => T.an_ne hi hD
    refine ⟨c', ι', A', A.gh.other hpi ?_ hloc, Nat.lt_of_lt_of_le A.big hloc.up⟩
    rw [putIn, W.op i hi, Option.bind_some, insE, hq]; rfl
end
/-- a region in which a map is written out -/
theorem evLit_ok {rdc : Option Nat} {m : Nat} {id : Nat} {t : Tm} {H : Hp} {nx : Nat} {r : R} {Q : Exit → Act → World → Prop} (hmix : P.follows .mixedOrders = true) (hcs : CallsOk P X gs base rec rdc m) (hB : ∀ p ∈ ops.toList, operB gs n p = true)
    (ht : TR ι n t a.tmps) (hst : St gs base ι H nx w.heap) {ms : List Nat} (hms : planOf ops.toList = some ms) (h : evLit P X base rec ops.toList ms t H nx (nx + countAl (kOf P X) ops.toList) = r) (hr : ∀ k, r ≠ .fail k)
    (hQ : ∀ a' w' ι' t' H' nx', r = .norm t' H' nx' → Stp base ι H nx w ι' H' nx' w' → St gs base ι' H' nx' w'.heap → TR ι' n t' a'.tmps → Keeps (dsts ops.toList) a a' → a'.defers = a.defers → Q .normal a' w') :
    (Code.region id ops true).wpIn (FW rdc) m P Q a w := by
  rw [evLit, bEl_eq] at h
  split at h
  case isFalse => exact absurd h.symm (hr _)
  rename_i hlen
  have hlen : ops.toList.length ≤ 128 := by rw [len_eq] at hlen; exact Nat.le_of_ble_eq_true hlen
  rw [bEl_eq] at h
  split at h
  case isFalse => exact absurd h.symm (hr _)
  rename_i hins
  rw [oEl_eq] at h
  split at h
  · exact absurd h.symm (hr _)
  rename_i pj hpj
  rw [fNat_eq, bEl_eq] at h
  split at h
  case isFalse => exact absurd h.symm (hr _)
  rename_i htop
  have htop := Nat.le_of_ble_eq_true htop
  generalize hb : nx + countAl (kOf P X) ops.toList = b at h htop
  obtain ⟨j0, ej, hj1, hj2, hj3⟩ := oneMk_ok hpj
  rw [Nat.zero_add] at ej
  subst ej
  generalize hr1 : evDr (kLit P X b) base rec ops.toList ops.toList ms 0 t H b.succ nx [] [] [] 0 = r1 at h
  have hr1' : ∀ k, r1 ≠ .fail k := fun k e => by rw [e] at h; exact hr k h.symm
  obtain ⟨S, D, O, M, W, hend⟩ := way_of hms hr1 hr1'
  have hle : nx + countAl (kLit P X b) ops.toList ≤ b := by have := countAl_le (P := P) (X := X) (b := b) ops.toList; omega
  have G : Given (kLit P X b) gs base n rec ops.toList ms t H nx (b + 1) S D O M := ⟨W, hB, ht.lim, by omega, htop, hst.low⟩
  have T : LitR P X gs base n rec ops.toList ms t H nx b pj S D O M := ⟨G, (insOk_ok hins).1, hj1, hj2 _ (W.op pj hj1), hj3, hle⟩
  refine wpIn_region_any hmix (draw_walk W rfl (fun L a' w' => ∃ c ι', AtL gs base n ops.toList t H nx b pj S D O ι w a L c ι' a' w') ?_ ?_ ops.size (Array.replicate ops.size false) a _ (by simp) ?_ ?_)
  · rintro L a' w' i ⟨c, ι', A⟩ hi hL hr'
    exact A.step T hi hL hr' hcs rfl
  · rintro L a' w' hall ⟨c, ι', A⟩
    obtain ⟨e1, e2, e3⟩ := A.at_.all_done G hlen hall
    rw [e1, e2] at hend
    obtain ⟨mm, ents, k, es, g1, g2, g3, g4, g5, g6, g7⟩ := A.gh.on (hall pj hj1)
    have hrend : r = .norm (S ops.toList.length).t (put6 (hp S ops.toList.length L c) (p6 b) (.umap (entL ops.toList (S ops.toList.length).t))) (S c).nx := by
      rw [← h, hend]; rfl
    have hb2 : b < 262144 := htop
    have hent : ∀ p, p ∈ es ↔ p ∈ entL ops.toList (S ops.toList.length).t := by
      have hsame : ∀ j o, ops.toList[j]? = some o → insE o (S ops.toList.length).t = insE o (S j).t := by
        intro j o ho
        have hjl : j < ops.toList.length := by
          rcases Nat.lt_or_ge j ops.toList.length with h | h
          · exact h
          · rw [List.getElem?_eq_none h] at ho; cases ho
        unfold insE
        rw [oEl_eq, oEl_eq]
        cases hq : insD o.op with
        | none => rfl
        | some q =>
          have hI := T.ins j o q ho hq
          simp only [Option.some.injEq, Prod.mk.injEq]
          refine ⟨const_opd hI.const _ _, ?_⟩
          cases hx : q.2.2.2 with
          | tmp d =>
            show get3 (S ops.toList.length).t (p3 d) = get3 (S j).t (p3 d)
            rcases hI.fix d hx with h' | ⟨p, o', h1, h2, h3⟩
            · cases h'
            · have ho' := W.op p (by omega)
              rw [h2] at ho'; cases ho'
              rw [W.tmp_of G.dst5 _ (Nat.le_refl _) p d (by omega) h3, W.tmp_of G.dst5 j (Nat.le_of_lt hjl) p d h1 h3]
          | const v => rfl
          | global g => rfl
          | func f => rfl
      intro p
      rw [g7 p, mem_entL]
      constructor
      · rintro ⟨j, _, he⟩
        unfold putIn at he
        cases ho : ops.toList[j]? with
        | none => rw [ho] at he; cases he
        | some o =>
          rw [ho, Option.bind_some] at he
          exact ⟨j, o, ho, by rw [hsame j o ho]; exact he⟩
      · rintro ⟨j, o, ho, he⟩
        have hjl : j < ops.toList.length := by
          rcases Nat.lt_or_ge j ops.toList.length with h | h
          · exact h
          · rw [List.getElem?_eq_none h] at ho; cases ho
        exact ⟨j, hall j hjl, by rw [putIn, ho, Option.bind_some, ← hsame j o ho]; exact he⟩
    obtain ⟨s1, s2⟩ := lay_live (H' := put6 (hp S ops.toList.length L c) (p6 b) (.umap (entL ops.toList (S ops.toList.length).t))) A.at_.st A.at_.stp A.big (by omega) g1 g2 g4 (ob := .umap (entL ops.toList (S ops.toList.length).t)) ⟨ents, k, g5, ⟨es, g6, hent⟩⟩ (row_put ..) fun x hx hxb => row_put_ne hb2 hx fun e => hxb e.symm
    exact hQ a' w' ι' _ _ _ hrend s2 s1 e3 A.at_.keeps A.at_.defers
  · rw [none_done]
    refine ⟨0, ι, At.start G ht hst, ⟨fun _ => ⟨hst.fresh b (by omega), fun j hj => (by cases hj)⟩, fun h => (by cases h)⟩, ?_⟩
    rw [W.start]; exact Nat.lt_succ_self b
  · have := undone_le (fun k => (Array.replicate ops.size false).getD k false) ops.toList.length
    simpa using this
/-- a region whose order is drawn -/
theorem evDraw_ok {rdc : Option Nat} {m : Nat} {id : Nat} {t : Tm} {H : Hp} {nx : Nat} {r : R} {Q : Exit → Act → World → Prop} (hmix : P.follows .mixedOrders = true) (hcs : CallsOk P X gs base rec rdc m) (hB : ∀ p ∈ ops.toList, operB gs n p = true)
    (ht : TR ι n t a.tmps) (hst : St gs base ι H nx w.heap) (h : evDraw P X base rec ops.toList t H nx = r) (hr : ∀ k, r ≠ .fail k)
    (hQ : ∀ a' w' ι' t' H' nx', r = .norm t' H' nx' → Stp base ι H nx w ι' H' nx' w' → St gs base ι' H' nx' w'.heap → TR ι' n t' a'.tmps → Keeps (dsts ops.toList) a a' → a'.defers = a.defers → Q .normal a' w') :
    (Code.region id ops true).wpIn (FW rdc) m P Q a w := by
  rw [evDraw, oEl_eq] at h
  split at h
  · exact absurd h.symm (hr _)
  rename_i ms hms
  rw [fNat_eq, bEl_eq] at h
  have eadd : Nat.add nx (countAl (kOf P X) ops.toList) = nx + countAl (kOf P X) ops.toList := rfl
  rw [eadd] at h
  split at h
  · rename_i hlen
    have hlen : ops.toList.length ≤ 80 := by rw [len_eq] at hlen; exact Nat.le_of_ble_eq_true hlen
    rw [bEl_eq] at h
    split at h
    case isFalse => exact absurd h.symm (hr _)
    rename_i htop
    exact evDrN_ok hmix hcs hB ht hst hms (by omega) (Nat.le_of_ble_eq_true htop) h hr hQ
  · exact evLit_ok hmix hcs hB ht hst hms h hr hQ
end Go.Abs
