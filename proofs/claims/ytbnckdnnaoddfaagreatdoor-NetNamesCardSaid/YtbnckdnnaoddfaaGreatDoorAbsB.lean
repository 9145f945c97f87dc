import Derived.Test.YtbnckdnnaoddfaaGreatDoorAbsA
import Derived.WalkKit
set_option linter.all false
namespace Go.Abs
variable {P : Program} {ι : Inj}
theorem run_underlying {t : TypeId} {d : TypeDesc} (h : P.underlying t = some d) (w : World) : (underlying t).run P w = .ok d w := by simp [underlying, program, Sem.run, h]
theorem run_typeInfo {t : TypeId} {i : TypeInfo} (h : P.info? t = some i) (w : World) : (typeInfo t).run P w = .ok i w := by simp [typeInfo, program, Sem.run, h]
theorem run_sizeOf {t : TypeId} {i : TypeInfo} (h : P.info? t = some i) (w : World) : (sizeOf t).run P w = .ok i.size w := by simp [sizeOf, run_typeInfo h]
theorem run_zeroValue {t : TypeId} {i : TypeInfo} {v : Value} (h : P.info? t = some i) (hz : i.zero = some v) (w : World) : (zeroValue t).run P w = .ok v w := by simp [zeroValue, run_typeInfo h, hz]
theorem info_of_underlying {t : TypeId} {d : TypeDesc} (h : P.underlying t = some d) : ∃ i, P.info? t = some i := by
  unfold Program.underlying at h
  cases hi : P.info? t with
  | none => simp [hi] at h
  | some i => exact ⟨i, rfl⟩
theorem addr_add (c o n : Nat) : (⟨c, o, none⟩ : Addr).add n = ⟨c, o + n, none⟩ := by
  unfold Addr.add; split
  · rename_i h; subst h; rfl
  · rfl
/-! ### What stands behind a value -/
theorem VR.bool_inv {b : Bool} {x : Value} (h : VR ι (.bool b) x) : x = .bool b := by cases h; rfl
theorem VR.int_inv {k : IntKind} {n : Int} {x : Value} (h : VR ι (.int k n) x) : x = .int k n := by cases h; rfl
theorem VR.str_inv {l : List Nat} {x : Value} (h : VR ι (.str l) x) : ∃ s, x = .string s ∧ bytesOf s = l := by cases h; exact ⟨_, rfl, ‹_›⟩
theorem VR.ptr_inv {b o : Nat} {x : Value} (h : VR ι (.ptr b o) x) : ∃ m, ι b = some m ∧ m.s ≤ o ∧ x = .pointer (some ⟨m.c, o - m.s, none⟩) := by cases h; exact ⟨_, ‹_›, ‹_›, rfl⟩
theorem VR.slice_inv {b o l : Nat} {k : Cp} {x : Value} (h : VR ι (.slice b o l k) x) :
    ∃ m a cap, ι b = some m ∧ CpR m o cap k ∧ l ≤ cap ∧ (cap ≠ 0 → a = ⟨m.c, o - m.s, none⟩ ∧ m.s ≤ o) ∧ x = .slice (some a) l cap := by cases h; exact ⟨_, _, _, ‹_›, ‹_›, ‹_›, ‹_›, rfl⟩
theorem VR.agg_inv {l : List AV} {x : Value} (h : VR ι (.agg l) x) : ∃ a : Array Value, x = .agg a ∧ VRs ι l a.toList ∧ ∀ v ∈ l, v.cell = true := by cases h; exact ⟨_, rfl, ‹_›, ‹_›⟩
theorem VR.tuple_inv {l : List AV} {x : Value} (h : VR ι (.tuple l) x) : ∃ a : Array Value, x = .tuple a ∧ VRs ι l a.toList := by cases h; exact ⟨_, rfl, ‹_›⟩
theorem VR.func_inv {f : Fn} {a b : List AV} {x : Value} (h : VR ι (.func f a b) x) : ∃ f' a' b', x = .func f' a' b' ∧ FnR ι f f' ∧ VRs ι a a'.toList ∧ VRs ι b b'.toList := by cases h; exact ⟨_, _, _, rfl, ‹_›, ‹_›, ‹_›⟩
theorem VR.iface_inv {t : TypeId} {v : AV} {x : Value} (h : VR ι (.iface t v) x) : ∃ y, x = .iface t y ∧ VR ι v y := by cases h; exact ⟨_, rfl, ‹_›⟩
theorem VR.map_inv {b : Nat} {x : Value} (h : VR ι (.map b) x) : ∃ m, ι b = some m ∧ x = .map (some m.c) := by cases h; exact ⟨_, ‹_›, rfl⟩
theorem VR.nilPtr_inv {x : Value} (h : VR ι .nilPtr x) : x = .pointer none := by cases h; rfl
theorem VR.nilSlice_inv {x : Value} (h : VR ι .nilSlice x) : x = .slice none 0 0 := by cases h; rfl
theorem VR.nilMap_inv {x : Value} (h : VR ι .nilMap x) : x = .map none := by cases h; rfl
theorem VR.nilFunc_inv {x : Value} (h : VR ι .nilFunc x) : x = .nilFunc := by cases h; rfl
theorem VR.nilIface_inv {x : Value} (h : VR ι .nilIface x) : x = .nilIface := by cases h; rfl
/-! ### Operands -/
theorem ofCell_ok (v : Value) (h : cellV v = true) : VR ι (ofCell v) v ∧ (ofCell v).cell = true := by
  unfold ofCell
  split <;> first
    | exact ⟨.bool _, rfl⟩ | exact ⟨.int _ _, rfl⟩ | exact ⟨.str _ _ rfl, rfl⟩ | exact ⟨.nilPtr, rfl⟩ | exact ⟨.nilSlice, rfl⟩ | exact ⟨.nilMap, rfl⟩ | exact ⟨.nilFunc, rfl⟩ | exact ⟨.nilIface, rfl⟩
    | (simp [cellV] at h; done) | exact ⟨.undef _ h, rfl⟩
theorem VRs.map_ofCell : ∀ l : List Value, l.all cellV = true → VRs ι (l.map ofCell) l ∧ ∀ v ∈ l.map ofCell, v.cell = true
  | [], _ => ⟨.nil, by simp⟩
  | v :: l, h => by
    simp only [List.all_cons, Bool.and_eq_true] at h
    obtain ⟨a, b⟩ := ofCell_ok (ι := ι) v h.1
    obtain ⟨c, d⟩ := VRs.map_ofCell l h.2
    exact ⟨.cons _ _ _ _ a c, by simpa using ⟨b, by simpa using d⟩⟩
theorem ofValue_ok (v : Value) : VR ι (ofValue v) v := by
  unfold ofValue
  split
  · rename_i cs
    rw [bEl_eq]; split
    · rename_i h
      obtain ⟨a, b⟩ := VRs.map_ofCell (ι := ι) cs.toList h
      exact .agg _ _ a b
    · exact .any _
  · rename_i hv
    by_cases h : cellV v = true
    · exact (ofCell_ok v h).1
    · cases v <;> first | exact absurd rfl h | exact absurd rfl (hv _) | exact VR.any _
theorem opd_ok {gs n : Nat} {t : Tm} {a : Act} (h : TR ι n t a.tmps) (hg : GR gs ι) {x : Operand} (hx : opndB gs n x = true) : VR ι (opd x t) (a.eval x) := by
  cases x with
  | tmp i =>
    obtain ⟨y, hy, hv⟩ := h.val i (by simpa [opndB] using hx)
    have : a.eval (.tmp i) = y := by simp [Act.eval, Array.getD_eq_getD_getElem?, hy]
    rw [this]; exact hv
  | const v => exact ofValue_ok v
  | global g =>
    obtain ⟨m, e, h1, h2⟩ := hg g (by simpa [opndB] using hx)
    have := VR.ptr (ι := ι) g 0 m e (by omega)
    rw [h1] at this
    simpa [opd, Act.eval] using this
  | func f => exact .func _ _ _ _ _ _ (.func f) .nil .nil
theorem opds_ok {gs n : Nat} {t : Tm} {a : Act} (h : TR ι n t a.tmps) (hg : GR gs ι) {o : Oper} (ho : operB gs n o = true) : ∀ x ∈ opnds o.op, VR ι (opd x t) (a.eval x) := by
  intro x hx
  unfold operB at ho
  rw [bEl_eq] at ho
  split at ho
  · rw [allL_eq] at ho
    exact opd_ok h hg (List.all_eq_true.1 ho x hx)
  · cases ho
theorem wrapf_eq (k : IntKind) (n : Int) : wrapf k n = k.wrap n := by
  cases n with
  | ofNat m =>
    cases k with
    | i32 =>
      show bEl (Nat.ble m 2147483647) (Int.ofNat m) (IntKind.i32.wrap (Int.ofNat m)) = _
      rw [bEl_eq]; split
      · rename_i h
        have : m ≤ 2147483647 := by simpa using h
        rw [IntWalk.i32_in]; simp only [Int.ofNat_eq_natCast]; omega
      · rfl
    | i64 =>
      show bEl (Nat.ble m 9223372036854775807) (Int.ofNat m) (IntKind.i64.wrap (Int.ofNat m)) = _
      rw [bEl_eq]; split
      · rename_i h
        have : m ≤ 9223372036854775807 := by simpa using h
        rw [IntWalk.i64_in]; simp only [Int.ofNat_eq_natCast]; omega
      · rfl
    | u8 =>
      show Int.ofNat (m % 256) = _
      rw [IntKind.wrap_u8]; simp
    | u64 =>
      show Int.ofNat (m % 18446744073709551616) = _
      rw [IntKind.wrap_u64]; simp
    | _ => rfl
  | negSucc m =>
    cases k with
    | i64 =>
      show bEl (Nat.ble m 9223372036854775807) (Int.negSucc m) (IntKind.i64.wrap (Int.negSucc m)) = _
      rw [bEl_eq]; split
      · rename_i h
        have h : m ≤ 9223372036854775807 := Nat.le_of_ble_eq_true h
        rw [IntWalk.i64_in]; rw [Int.negSucc_eq]; omega
      · rfl
    | _ => simp only [wrapf, iEl_eq]
/-- a quiet operation, soundly -/
def Q0R (P : Program) (o : Oper) (q : Q0) : Prop := ∀ (ι : Inj) (t : Tm) (ρ : Operand → Value), (∀ x ∈ opnds o.op, VR ι (opd x t) (ρ x)) → ∀ v, q t = some v → ∃ x, VR ι v x ∧ ∀ w, (execOp ρ o).run P w = .ok (.value x) w
section
variable {o : Oper}
theorem q_move {x : Operand} (h : o.op = .move x) : Q0R P o (qMove x) := by
  intro ι t ρ hO v hv
  cases hv
  exact ⟨ρ x, hO x (by rw [h]; exact List.mem_singleton.2 rfl), fun w => by simp [execOp, h]⟩
theorem q_assign {x : Operand} (h : o.op = .assign x) : Q0R P o (qMove x) := by
  intro ι t ρ hO v hv
  cases hv
  exact ⟨ρ x, hO x (by rw [h]; exact List.mem_singleton.2 rfl), fun w => by simp [execOp, h]⟩
theorem q_pick {c a b : Operand} (h : o.op = .pick c a b) : Q0R P o (qPick c a b) := by
  intro ι t ρ hO v hv
  have hc := hO c (by rw [h]; exact List.mem_cons_self ..)
  have ha := hO a (by rw [h]; exact List.mem_cons_of_mem _ (List.mem_cons_self ..))
  have hb := hO b (by rw [h]; exact List.mem_cons_of_mem _ (List.mem_cons_of_mem _ (List.mem_cons_self ..)))
  simp only [qPick, onBool_eq, bEl_eq] at hv
  split at hv
  · rename_i u e
    rw [e] at hc
    have hc := hc.bool_inv
    split at hv
    · cases hv; exact ⟨_, ha, fun w => by simp_all [execOp, asBool]⟩
    · cases hv; exact ⟨_, hb, fun w => by simp_all [execOp, asBool]⟩
  · cases hv
theorem q_field {s : TypeId} {x : Operand} {i : Nat} (h : o.op = .fieldAddr s x i) : Q0R P o (qField P s x i) := by
  intro ι t ρ hO v hv
  have hx := hO x (by rw [h]; exact List.mem_singleton.2 rfl)
  simp only [qField, onPtr_eq, oEl_eq, sizeK, nEl_eq] at hv
  split at hv
  · rename_i b p e
    rw [e] at hx
    obtain ⟨m, hm, hs, ex⟩ := hx.ptr_inv
    split at hv
    · cases hv
    · rename_i f hf
      split at hv
      · cases hv
      · rename_i inf hi
        split at hv
        · cases hv
        · rename_i z hz
          cases hv
          unfold fieldD at hf
          split at hf
          · rename_i fs j hd
            refine ⟨_, .ptr b (p + f.offset) m hm (by omega), fun w => ?_⟩
            simp [execOp, h, Instr.fieldAt, run_underlying hd, hf, ex, Instr.sureAddr, fieldPlace, run_sizeOf hi, hz, addr_add]
            try omega
          · cases hf
  · cases hv
theorem q_nilCheck {x : Operand} (h : o.op = .nilCheck x) : Q0R P o (qNilCheck x) := by
  intro ι t ρ hO v hv
  have hx := hO x (by rw [h]; exact List.mem_singleton.2 rfl)
  simp only [qNilCheck, onPtr_eq, onFunc_eq, onIface_eq] at hv
  split at hv
  · rename_i b p e
    rw [e] at hx
    cases hv
    obtain ⟨m, hm, hs, ex⟩ := hx.ptr_inv
    exact ⟨_, .ptr b p m hm hs, fun w => by simp [execOp, h, ex]⟩
  · split at hv
    · rename_i f a b e
      rw [e] at hx
      obtain ⟨f', a', b', ex, hf, ha, hb⟩ := hx.func_inv
      cases f with
      | func g =>
        cases hv
        cases hf
        exact ⟨_, .func _ _ _ _ _ _ (.func g) ha hb, fun w => by simp [execOp, h, ex]⟩
      | _ => cases hv
    · split at hv
      · rename_i a u e
        rw [e] at hx
        cases hv
        obtain ⟨y, ex, hy⟩ := hx.iface_inv
        exact ⟨_, .iface _ _ _ hy, fun w => by simp [execOp, h, ex]⟩
      · cases hv
theorem bitsU_eq (k : IntKind) (a : Int) : bitsU k a = (BitVec.ofInt k.bits a).toNat := by
  rw [BitVec.toNat_ofInt]
  show Int.toNat (a % Int.ofNat (2 ^ k.bits)) = _
  congr 1
theorem bitsU_ones (k : IntKind) : bitsU k (if k.signed then -1 else k.max) = Nat.sub (Nat.pow 2 k.bits) 1 := by cases k <;> decide
theorem q_un {op : UnOp} {ty : TypeId} {x : Operand} (h : o.op = .unOp op ty x) : Q0R P o (qUn op x) := by
  intro ι t ρ hO v hv
  have hx := hO x (by rw [h]; exact List.mem_singleton.2 rfl)
  cases op with
  | neg =>
    simp only [qUn, onInt_eq] at hv
    split at hv
    · rename_i k n e
      rw [e] at hx
      cases hv
      have ex := hx.int_inv
      refine ⟨_, .int _ _, fun w => ?_⟩
      simp [execOp, h, ex, Op.unary, Op.intArith, wrapf_eq]; rfl
    · cases hv
  | xor =>
    change onInt (opd x t) none cplOp = some v at hv
    rw [onInt_eq] at hv
    split at hv
    · rename_i k n e
      rw [e] at hx
      cases hv
      have ex := hx.int_inv
      refine ⟨_, .int _ _, fun w => ?_⟩
      have e2 : wrapf k (Int.ofNat (Nat.xor (Nat.sub (Nat.pow 2 k.bits) 1) (bitsU k n))) = k.wrap ((BitVec.ofInt k.bits (if k.signed then -1 else k.max) ^^^ BitVec.ofInt k.bits n).toNat : Int) := by
        rw [wrapf_eq, BitVec.toNat_xor, ← bitsU_eq, ← bitsU_eq, bitsU_ones]; rfl
      rw [e2]
      simp [execOp, h, ex, Op.unary, Op.intBits]
    · cases hv
  | not =>
    simp only [qUn, onBool_eq] at hv
    split at hv
    · rename_i b e
      rw [e] at hx
      cases hv
      have ex := hx.bool_inv
      exact ⟨_, .bool _, fun w => by simp [execOp, h, ex, Op.unary, bnot_eq]⟩
    · cases hv
  | _ => cases hv
theorem q_extract {x : Operand} {i : Nat} (h : o.op = .extract x i) : Q0R P o (qExtract x i) := by
  intro ι t ρ hO v hv
  have hx := hO x (by rw [h]; exact List.mem_singleton.2 rfl)
  simp only [qExtract, onTuple_eq, nth_eq] at hv
  split at hv
  · rename_i l e
    rw [e] at hx
    obtain ⟨a, ex, ha⟩ := hx.tuple_inv
    obtain ⟨y, hy, hr⟩ := ha.get i v hv
    refine ⟨y, hr, fun w => ?_⟩
    rw [Array.getElem?_toList] at hy
    simp [execOp, h, ex, Instr.extract, hy]
  · cases hv
end
end Go.Abs
namespace Go.Abs
variable {P : Program} {ι : Inj} {o : Oper}
theorem mem1 {x : Operand} {o : Op} {l : List Operand} (h : opnds o = x :: l) : x ∈ opnds o := by rw [h]; exact List.mem_cons_self ..
theorem mem2 {x y : Operand} {o : Op} {l : List Operand} (h : opnds o = y :: x :: l) : x ∈ opnds o := by rw [h]; exact List.mem_cons_of_mem _ (List.mem_cons_self ..)
theorem mem3 {x y z : Operand} {o : Op} {l : List Operand} (h : opnds o = z :: y :: x :: l) : x ∈ opnds o := by rw [h]; exact List.mem_cons_of_mem _ (List.mem_cons_of_mem _ (List.mem_cons_self ..))
theorem q_indexAddr {ty : TypeId} {x i : Operand} (h : o.op = .indexAddr ty x i) : Q0R P o (qIndexAddr P ty x i) := by
  intro ι t ρ hO v hv
  have hx := hO x (by rw [h]; exact mem1 rfl)
  have hi := hO i (by rw [h]; exact mem2 rfl)
  simp only [qIndexAddr, natK_eq] at hv
  split at hv
  · rename_i k n e
    rw [e] at hi
    have ei := hi.int_inv
    simp only [onSlice_eq] at hv
    split at hv
    · rename_i b p l c e2
      rw [e2] at hx
      obtain ⟨m, a, cap, hm, hc, hl, ha, ex⟩ := hx.slice_inv
      simp only [elemK, sizeK, oEl_eq] at hv
      split at hv
      · cases hv
      · rename_i el hel
        split at hv
        · cases hv
        · rename_i inf hinf
          simp only [idxA, bEl_eq] at hv
          split at hv
          · rename_i hlt
            have hlt : n < l := by simpa using hlt
            cases hv
            unfold elemD at hel
            split at hel
            · rename_i e3 hd
              cases hel
              obtain ⟨ha1, ha2⟩ := ha (by omega)
              refine ⟨_, .ptr b (p + n * inf.size) m hm (by omega), fun w => ?_⟩
              simp [execOp, h, ei, ex, Instr.indexAt, asIntOf, run_underlying hd, run_sizeOf hinf, hlt, ha1, addr_add]
              try omega
            · cases hel
          · cases hv
    · simp only [onPtr_eq] at hv
      split at hv
      · rename_i b p e2
        rw [e2] at hx
        obtain ⟨m, hm, hs, ex⟩ := hx.ptr_inv
        simp only [arrK, sizeK, oEl_eq] at hv
        split at hv
        · cases hv
        · rename_i q hq
          split at hv
          · cases hv
          · rename_i inf hinf
            simp only [idxA, bEl_eq] at hv
            split at hv
            · rename_i hlt
              have hlt : n < q.1 := by simpa using hlt
              cases hv
              unfold arrD at hq
              split at hq
              · rename_i len el hd
                cases hq
                refine ⟨_, .ptr b (p + n * inf.size) m hm (by omega), fun w => ?_⟩
                simp only at hlt hinf
                simp [execOp, h, ei, ex, Instr.indexAt, Instr.sureAddr, asIntOf, run_underlying hd, run_sizeOf hinf, hlt, addr_add]
                try omega
              · cases hq
            · cases hv
      · cases hv
  · cases hv
theorem VRs.drop {ι : Inj} : ∀ (n : Nat) {l : List AV} {l' : List Value}, VRs ι l l' → VRs ι (l.drop n) (l'.drop n)
  | 0, _, _, h => h
  | _ + 1, _, _, .nil => .nil
  | n + 1, _, _, .cons _ _ _ _ _ ht => by simpa using VRs.drop n ht
theorem VRs.take {ι : Inj} : ∀ (n : Nat) {l : List AV} {l' : List Value}, VRs ι l l' → VRs ι (l.take n) (l'.take n)
  | 0, _, _, _ => by simpa using VRs.nil
  | _ + 1, _, _, .nil => .nil
  | n + 1, _, _, .cons v x _ _ h ht => by simpa using VRs.cons v x _ _ h (VRs.take n ht)
theorem isAgg_run {t : TypeId} {d : TypeDesc} (h : P.underlying t = some d) (w : World) : (Go.isAgg t).run P w = .ok (isAgg P t) w := by
  simp only [Go.isAgg, Sem.run_bind, run_underlying h, Result.andThen, isAgg, h]
  cases d <;> rfl
theorem part_ok {ty : TypeId} {l : List AV} {a : Array Value} {off : Nat} {v : AV} (hl : VRs ι l a.toList) (hc : ∀ v ∈ l, v.cell = true) (h : partV P ty l off = some v) :
    ∃ x, VR ι v x ∧ ∀ w, (part ty a off).run P w = .ok x w := by
  simp only [partV, bEl_eq, sizeK, oEl_eq, tke_eq, drp_eq, nth_eq] at h
  split at h
  · cases h
  rename_i d hd
  split at h
  · rename_i hag
    split at h
    · cases h
    · rename_i inf hinf
      cases h
      refine ⟨.agg (a.extract off (off + inf.size)), .agg _ _ ?_ (fun v hv => hc v (List.mem_of_mem_drop (List.mem_of_mem_take hv))), fun w => ?_⟩
      · have := VRs.take inf.size (VRs.drop off hl)
        have e : (a.extract off (off + inf.size)).toList = (a.toList.drop off).take inf.size := by
          rw [Array.toList_extract, List.extract_eq_take_drop, Nat.add_sub_cancel_left]
        rw [e]; exact this
      · simp [part, isAgg_run hd, hag, run_sizeOf hinf]
  · rename_i hag
    obtain ⟨x, hx, hr⟩ := hl.get off v h
    refine ⟨x, hr, fun w => ?_⟩
    rw [Array.getElem?_toList] at hx
    simp only [Bool.not_eq_true] at hag
    simp [part, isAgg_run hd, hag, hx]
theorem q_fieldV {ty : TypeId} {x : Operand} {i : Nat} (h : o.op = .field ty x i) : Q0R P o (qFieldV P ty x i) := by
  intro ι t ρ hO v hv
  have hx := hO x (by rw [h]; exact mem1 rfl)
  simp only [qFieldV, onAgg_eq, oEl_eq] at hv
  split at hv
  · rename_i l e
    rw [e] at hx
    obtain ⟨a, ex, ha, hc⟩ := hx.agg_inv
    split at hv
    · cases hv
    · rename_i f hf
      unfold fieldD at hf
      split at hf
      · rename_i fs j hd
        obtain ⟨y, hy, hr⟩ := part_ok ha hc hv
        exact ⟨y, hy, fun w => by simp [execOp, h, ex, Instr.field, run_underlying hd, hf, asAgg, hr]⟩
      · cases hf
  · cases hv
theorem bget (bs : ByteArray) (n : Nat) : bs[n]? = bs.data[n]? := by
  by_cases h : n < bs.size
  · have h' : n < bs.data.size := h
    rw [getElem?_pos bs n h, getElem?_pos bs.data n h']; rfl
  · have h' : ¬ n < bs.data.size := h
    rw [getElem?_neg bs n h, getElem?_neg bs.data n h']
theorem q_index {ty : TypeId} {x i : Operand} (h : o.op = .index ty x i) : Q0R P o (qIndex P ty x i) := by
  intro ι t ρ hO v hv
  have hx := hO x (by rw [h]; exact mem1 rfl)
  have hi := hO i (by rw [h]; exact mem2 rfl)
  simp only [qIndex, natK_eq] at hv
  split at hv
  · rename_i k n e
    rw [e] at hi
    have ei := hi.int_inv
    simp only [onStr_eq] at hv
    split at hv
    · rename_i s e2
      rw [e2] at hx
      obtain ⟨bs, ex, hb⟩ := hx.str_inv
      simp only [bEl_eq, oEl_eq, nth_eq] at hv
      split at hv
      · rename_i hd
        split at hv
        · cases hv
        · rename_i b hs
          cases hv
          have hd' : P.underlying ty = some .string := by
            unfold strD at hd
            split at hd
            · assumption
            · cases hd
          refine ⟨_, .int .u8 _, fun w => ?_⟩
          rw [← hb, bytesOf, List.getElem?_map] at hs
          simp only [Option.map_eq_some_iff] at hs
          obtain ⟨u, hu, rfl⟩ := hs
          have hu' : bs[n]? = some u := by
            rw [Array.getElem?_toList] at hu
            rw [bget]; exact hu
          simp [execOp, h, ei, ex, Instr.index, asIntOf, run_underlying hd', hu']
      · cases hv
    · simp only [onAgg_eq] at hv
      split at hv
      · rename_i l e2
        rw [e2] at hx
        obtain ⟨a, ex, ha, hc⟩ := hx.agg_inv
        simp only [arrK, sizeK, oEl_eq] at hv
        split at hv
        · cases hv
        · rename_i q hq
          split at hv
          · cases hv
          · rename_i inf hinf
            simp only [bEl_eq] at hv
            split at hv
            · rename_i hlt
              have hlt : n < q.1 := by simpa using hlt
              unfold arrD at hq
              split at hq
              · rename_i len el hd
                cases hq
                simp only at hlt hinf hv
                obtain ⟨y, hy, hr⟩ := part_ok ha hc hv
                refine ⟨y, hy, fun w => ?_⟩
                simp [execOp, h, ei, ex, Instr.index, asIntOf, run_underlying hd, run_sizeOf hinf, hlt]
                rw [show n * inf.size = n.mul inf.size from rfl, hr w]; rfl
              · cases hq
            · cases hv
      · cases hv
  · cases hv
end Go.Abs
namespace Go.Abs
variable {P : Program} {ι : Inj} {o : Oper}
theorem q_convert {s d : TypeId} {x : Operand} (h : o.op = .convert s d x) : Q0R P o (qConvert P s d x) := by
  intro ι t ρ hO v hv
  have hx := hO x (by rw [h]; exact mem1 rfl)
  simp only [qConvert, oEl_eq] at hv
  split at hv
  · cases hv
  rename_i ds hs
  unfold cvD at hv
  split at hv
  · rename_i k hd
    simp only [onInt_eq] at hv
    split at hv
    · rename_i j n e
      rw [e] at hx
      cases hv
      have ex := hx.int_inv
      exact ⟨_, .int _ _, fun w => by simp [execOp, h, ex, convert, run_underlying hs, run_underlying hd, Conv.intToInt, wrapf_eq]⟩
    · cases hv
  · rename_i hd
    simp only [onStr_eq] at hv
    split at hv
    · rename_i l e
      rw [e] at hx
      cases hv
      obtain ⟨bs, ex, hb⟩ := hx.str_inv
      exact ⟨_, .str bs l hb, fun w => by simp [execOp, h, ex, convert, run_underlying hs, run_underlying hd]⟩
    · cases hv
  · cases hv
theorem q_makeIface {ty : TypeId} {x : Operand} (h : o.op = .makeInterface ty x) : Q0R P o (qMakeIface P ty x) := by
  intro ι t ρ hO v hv
  have hx := hO x (by rw [h]; exact mem1 rfl)
  simp only [qMakeIface, bEl_eq, fAV_eq] at hv
  split at hv
  · cases hv
  · rename_i hd
    cases hv
    cases hu : P.underlying ty with
    | none => rw [hu] at hd; exact absurd rfl hd
    | some d =>
      refine ⟨_, .iface ty _ _ hx, fun w => ?_⟩
      simp only [execOp, h, Instr.makeInterface, Sem.run_bind, run_underlying hu, Result.andThen]
      cases d <;> first | rfl | (rw [hu] at hd; exact absurd rfl hd)
theorem VRs.map {t : Tm} {ρ : Operand → Value} : ∀ {l : List Operand}, (∀ x ∈ l, VR ι (opd x t) (ρ x)) → VRs ι (l.map (opd · t)) (l.map ρ)
  | [], _ => .nil
  | x :: l, h => .cons _ _ _ _ (h x (List.mem_cons_self ..)) (VRs.map fun y hy => h y (List.mem_cons_of_mem _ hy))
theorem q_makeFunc {fn : Fn} {a b : Array Operand} (h : o.op = .makeFunc fn a b) : Q0R P o (qMakeFunc fn a b) := by
  intro ι t ρ hO v hv
  cases fn with
  | func f =>
    cases hv
    have e : opnds o.op = a.toList ++ b.toList := by rw [h]; exact app_eq _ _
    refine ⟨_, .func _ _ _ _ (a.map ρ) (b.map ρ) (.func f) ?_ ?_, fun w => by simp [execOp, h, Instr.makeFunc]⟩
    · rw [mapOpd_eq, Array.toList_map]; exact VRs.map fun x hx => hO x (by rw [e]; exact List.mem_append_left _ hx)
    · rw [mapOpd_eq, Array.toList_map]; exact VRs.map fun x hx => hO x (by rw [e]; exact List.mem_append_right _ hx)
  | _ => cases hv
/-! ### Slices -/
theorem bound_ok {t : Tm} {ρ : Operand → Value} {x : Option Operand} {d most : Nat} {k : Nat → Option AV} {v : AV} (hx : ∀ y, x = some y → VR ι (opd y t) (ρ y)) (h : bound x t d most k = some v) :
    ∃ n, k n = some v ∧ ((x = none ∧ n = d) ∨ (∃ y, x = some y ∧ n ≤ most ∧ ∀ y', most ≤ y' → ∀ code w, (Instr.sliceBound (ρ y) y' code).run P w = .ok n w)) := by
  simp only [bound, oEl_eq] at h
  split at h
  · exact ⟨d, h, .inl ⟨rfl, rfl⟩⟩
  · rename_i y
    have hy := hx y rfl
    simp only [natK_eq, bEl_eq] at h
    split at h
    · rename_i kd n e
      rw [e] at hy
      have ey := hy.int_inv
      split at h
      · rename_i hle
        have hle : n ≤ most := Nat.le_of_ble_eq_true hle
        refine ⟨n, h, .inr ⟨y, rfl, hle, fun y' hy' code w => ?_⟩⟩
        have : n ≤ y' := by omega
        simp [Instr.sliceBound, ey, asIntOf, this]
      · cases h
    · cases h
/-- the bounds, lower and upper; m: how far the slice may reach -/
theorem slRow_ok {t : Tm} {ρ : Operand → Value} {lo hi : Option Operand} {b p l most sz : Nat} {c : Nat → Cp} {v : AV} (hlo : ∀ y, lo = some y → VR ι (opd y t) (ρ y)) (hhi : ∀ y, hi = some y → VR ι (opd y t) (ρ y))
    (h : slRow lo hi t b p l most sz c = some v) (hl : hi = none → l ≤ most) : ∃ i j, i ≤ j ∧ j ≤ most ∧ v = .slice b (p + i * sz) (j - i) (c i) ∧ ∀ m, most ≤ m → ∀ c1 c2 w,
      (do let h ← (match hi with | some v => Instr.sliceBound (ρ v) m c1 | none => pure l); let l ← (match lo with | some v => Instr.sliceBound (ρ v) h c2 | none => pure 0); pure (l, h) : Sem (Nat × Nat)).run P w = .ok (i, j) w := by
  unfold slRow at h
  obtain ⟨j, h, hj⟩ := bound_ok (P := P) hhi h
  obtain ⟨i, h, hi'⟩ := bound_ok (P := P) hlo h
  cases h
  have hjm : j ≤ most := by
    rcases hj with ⟨e, rfl⟩ | ⟨_, _, hh, _⟩
    · exact hl e
    · exact hh
  have hij : i ≤ j := by
    rcases hi' with ⟨_, rfl⟩ | ⟨_, _, hh, _⟩
    · exact Nat.zero_le _
    · exact hh
  refine ⟨i, j, hij, hjm, rfl, fun m hm c1 c2 w => ?_⟩
  rcases hj with ⟨rfl, rfl⟩ | ⟨y, rfl, _, hy⟩ <;> rcases hi' with ⟨rfl, rfl⟩ | ⟨z, rfl, _, hz⟩
  · rfl
  · simp [hz _ (Nat.le_refl _)]
  · simp [hy m hm]
  · simp [hy m hm, hz _ (Nat.le_refl _)]
theorem bounds_none {lo hi : Option Value} {l m i j : Nat} {w : World}
    (hb : ∀ c1 c2, (do let h ← (match hi with | some v => Instr.sliceBound v m c1 | none => pure l); let l ← (match lo with | some v => Instr.sliceBound v h c2 | none => pure 0); pure (l, h) : Sem (Nat × Nat)).run P w = .ok (i, j) w) (s : Bool) :
    (Instr.sliceBounds s l m lo hi none).run P w = .ok (i, j, m) w := by
  have := hb (if s then .sliceAcap else .sliceAlen) .sliceB
  cases lo <;> cases hi <;> simp [Instr.sliceBounds] at this ⊢
  · exact this
  · generalize (Instr.sliceBound _ m _).run P w = r at *
    cases r <;> simp_all [Result.andThen]
  · generalize (Instr.sliceBound _ l _).run P w = r at *
    cases r <;> simp_all [Result.andThen]
  · generalize (Instr.sliceBound _ m _).run P w = r at *
    cases r with
    | ok a w' =>
      simp only [Result.andThen] at this ⊢
      generalize (Instr.sliceBound _ a _).run P w' = r2 at *
      cases r2 <;> simp_all [Result.andThen]
    | halt => simp [Result.andThen] at this
theorem bounds_some {lo : Option Value} {hi mx : Value} {l m n i j : Nat} {w : World} (hm : ∀ code, (Instr.sliceBound mx n code).run P w = .ok m w)
    (hb : ∀ c1 c2, (do let h ← Instr.sliceBound hi m c1; let l ← (match lo with | some v => Instr.sliceBound v h c2 | none => pure 0); pure (l, h) : Sem (Nat × Nat)).run P w = .ok (i, j) w) (s : Bool) :
    (Instr.sliceBounds s l n lo (some hi) (some mx)).run P w = .ok (i, j, m) w := by
  have := hb .slice3B .slice3C
  cases lo <;> simp [Instr.sliceBounds, hm] at this ⊢
  · generalize (Instr.sliceBound _ m _).run P w = r at *
    cases r <;> simp_all [Result.andThen]
  · generalize (Instr.sliceBound _ m _).run P w = r at *
    cases r with
    | ok a w' =>
      simp only [Result.andThen] at this ⊢
      generalize (Instr.sliceBound _ a _).run P w' = r2 at *
      cases r2 <;> simp_all [Result.andThen]
    | halt => simp [Result.andThen] at this
theorem opt_map {hi : Option Operand} {ρ : Operand → Value} {α : Type} (f : Value → α) (d : α) : (match hi.map ρ with | some v => f v | none => d) = (match hi with | some v => f (ρ v) | none => d) := by cases hi <;> rfl
theorem mem_optL {α : Type} {o : Option α} {l : List α} {y : α} (h : y ∈ l) : y ∈ optL o l := by
  cases o with
  | none => exact h
  | some x => exact List.mem_cons_of_mem _ h
theorem mem_optL_self {α : Type} {o : Option α} {l : List α} {y : α} (h : o = some y) : y ∈ optL o l := by subst h; exact List.mem_cons_self ..
theorem elemD_inv {d : Option TypeDesc} {e : TypeId} (h : elemD d = some e) : d = some (.slice e) := by
  unfold elemD at h; split at h
  · cases h; rfl
  · cases h
theorem arrD_inv {d : Option TypeDesc} {q : Nat × TypeId} (h : arrD d = some q) : d = some (.array q.1 q.2) := by
  unfold arrD at h; split at h
  · cases h; rfl
  · cases h
theorem bytes_extract (s : ByteArray) (i j : Nat) : bytesOf (s.extract i j) = ((bytesOf s).drop i).take (j - i) := by
  unfold bytesOf
  rw [ByteArray.data_extract, Array.toList_extract, List.extract_eq_take_drop, List.map_take, List.map_drop]
theorem bytes_length (s : ByteArray) : (bytesOf s).length = s.size := by simp only [bytesOf, List.length_map, Array.length_toList]; rfl
/-- the capacity behind the lower bound -/
theorem q_slice {ty : TypeId} {x : Operand} {lo hi mx : Option Operand} (h : o.op = .slice ty x lo hi mx) : Q0R P o (qSlice P ty x lo hi mx) := by
  intro ι t ρ hO v hv
  have e0 : opnds o.op = x :: optL lo (optL hi (optL mx [])) := by rw [h]; rfl
  have hx := hO x (by rw [e0]; exact List.mem_cons_self ..)
  have hlo : ∀ y, lo = some y → VR ι (opd y t) (ρ y) := fun y e => hO y (by rw [e0]; exact List.mem_cons_of_mem _ (mem_optL_self e))
  have hhi : ∀ y, hi = some y → VR ι (opd y t) (ρ y) := fun y e => hO y (by rw [e0]; exact List.mem_cons_of_mem _ (mem_optL (mem_optL_self e)))
  have hmx : ∀ y, mx = some y → VR ι (opd y t) (ρ y) := fun y e => hO y (by rw [e0]; exact List.mem_cons_of_mem _ (mem_optL (mem_optL (mem_optL_self e))))
  have hrun : ∀ w, (execOp ρ o).run P w = ((Instr.sliceAt ty (ρ x) (lo.map ρ) (hi.map ρ) (mx.map ρ)).run P w).andThen fun v w' => .ok (.value v) w' := fun w => by simp [execOp, h]
  simp only [hrun]
  simp only [qSlice] at hv
  generalize opd x t = ax at hx hv
  cases ax <;> simp only [AV.el] at hv <;> try (cases hv; done)
  case str l =>
    rw [oEl_eq] at hv
    split at hv
    · rw [bEl_eq] at hv
      split at hv
      · rename_i hd
        have hd' : P.underlying ty = some .string := by
          unfold strD at hd
          split at hd
          · assumption
          · cases hd
        obtain ⟨bs, ex, hb⟩ := hx.str_inv
        unfold slStr at hv
        rw [len_eq] at hv
        obtain ⟨j, hv, hj⟩ := bound_ok (P := P) hhi hv
        obtain ⟨i, hv, hi'⟩ := bound_ok (P := P) hlo hv
        cases hv
        have hlen : l.length = bs.size := by rw [← hb, bytes_length]
        refine ⟨.string (bs.extract i j), .str _ _ ?_, fun w => ?_⟩
        · rw [bytes_extract, hb, tke_eq, drp_eq]; rfl
        · have hb2 : (Instr.sliceBounds false bs.size bs.size (lo.map ρ) (hi.map ρ) none).run P w = .ok (i, j, bs.size) w := by
            refine bounds_none (fun c1 c2 => ?_) false
            simp only [← hlen]
            rcases hj with ⟨rfl, rfl⟩ | ⟨y, rfl, _, hy⟩ <;> rcases hi' with ⟨rfl, rfl⟩ | ⟨z, rfl, _, hz⟩
            · rfl
            · simp [hz _ (Nat.le_refl _)]
            · simp [hy _ (Nat.le_refl _)]
            · simp [hy _ (Nat.le_refl _), hz _ (Nat.le_refl _)]
          simp [Instr.sliceAt, run_underlying hd', Instr.slice, ex, hb2]
      · cases hv
    · cases hv
  case ptr b p =>
    rw [oEl_eq] at hv
    split at hv
    · simp only [arrK, sizeK, oEl_eq] at hv
      split at hv
      · cases hv
      · rename_i q hq
        split at hv
        · cases hv
        · rename_i inf hinf
          have hd := arrD_inv hq
          obtain ⟨m, hm, hs, ex⟩ := hx.ptr_inv
          obtain ⟨i, j, hij, hjm, rfl, hb⟩ := slRow_ok (P := P) hlo hhi hv fun _ => Nat.le_refl _
          refine ⟨.slice (some (if q.1 = i then ⟨m.c, p - m.s, none⟩ else Addr.add ⟨m.c, p - m.s, none⟩ (i * inf.size))) (j - i) (q.1 - i), .slice _ _ _ _ m _ _ hm rfl (by omega) (fun hc => ?_), fun w => ?_⟩
          · rw [if_neg (by omega), addr_add]
            exact ⟨by simp only [Addr.mk.injEq, true_and, and_true]; omega, by omega⟩
          · have hb2 : (Instr.sliceBounds false q.1 q.1 (lo.map ρ) (hi.map ρ) none).run P w = .ok (i, j, q.1) w :=
              bounds_none (fun c1 c2 => by have := hb _ (Nat.le_refl _) c1 c2 w; cases lo <;> cases hi <;> exact this) false
            simp [Instr.sliceAt, run_underlying hd, ex, Instr.sureAddr, hb2, run_sizeOf hinf]
    · cases hv
  case slice b p l c =>
    simp only [elemK, sizeK, oEl_eq] at hv
    split at hv
    · cases hv
    · rename_i el hel
      split at hv
      · cases hv
      · rename_i inf hinf
        have hd := elemD_inv hel
        obtain ⟨m, a, cap, hm, hc, hl, ha, ex⟩ := hx.slice_inv
        unfold slSl at hv
        rw [oEl_eq] at hv
        split at hv
        · rw [Cp.el_eq] at hv
          split at hv
          · rename_i k
            cases hc
            obtain ⟨i, j, hij, hjm, rfl, hb⟩ := slRow_ok (P := P) hlo hhi hv fun _ => hl
            refine ⟨.slice (some (if cap = i then a else a.add (i * inf.size))) (j - i) (cap - i), .slice _ _ _ _ m _ _ hm rfl (by omega) (fun hc => ?_), fun w => ?_⟩
            · obtain ⟨ha1, ha2⟩ := ha (by omega)
              rw [if_neg (by omega), ha1, addr_add]
              exact ⟨by simp only [Addr.mk.injEq, true_and, and_true]; omega, by omega⟩
            · have hb2 : (Instr.sliceBounds true l cap (lo.map ρ) (hi.map ρ) none).run P w = .ok (i, j, cap) w :=
                bounds_none (fun c1 c2 => by have := hb _ (Nat.le_refl _) c1 c2 w; cases lo <;> cases hi <;> exact this) true
              simp [Instr.sliceAt, Instr.slice, run_underlying hd, ex, hb2, run_sizeOf hinf]
              split <;> rfl
          · rename_i z
            rw [bEl_eq] at hv
            split at hv
            · rename_i hz
              have hz : z = inf.size := Nat.eq_of_beq_eq_true hz
              obtain ⟨i, j, hij, hjm, rfl, hb⟩ := slRow_ok (P := P) hlo hhi hv fun _ => Nat.le_refl _
              refine ⟨.slice (some (if cap = i then a else a.add (i * inf.size))) (j - i) (cap - i), .slice _ _ _ _ m _ _ hm (fun hc0 => ?_) (by omega) (fun hc => ?_), fun w => ?_⟩
              · obtain ⟨ha1, ha2⟩ := ha (by omega)
                have := hc (by omega)
                rw [hz] at this
                have e : cap * inf.size = i * inf.size + (cap - i) * inf.size := by rw [← Nat.add_mul]; congr 1; omega
                omega
              · obtain ⟨ha1, ha2⟩ := ha (by omega)
                rw [if_neg (by omega), ha1, addr_add]
                exact ⟨by simp only [Addr.mk.injEq, true_and, and_true]; omega, by omega⟩
              · have hb2 : (Instr.sliceBounds true l cap (lo.map ρ) (hi.map ρ) none).run P w = .ok (i, j, cap) w :=
                  bounds_none (fun c1 c2 => by have := hb cap hl c1 c2 w; cases lo <;> cases hi <;> exact this) true
                simp [Instr.sliceAt, Instr.slice, run_underlying hd, ex, hb2, run_sizeOf hinf]
                split <;> rfl
            · cases hv
        · rename_i y
          rw [oEl_eq] at hv
          split at hv
          · cases hv
          rename_i z
          obtain ⟨mm, hv, hmm⟩ := bound_ok (P := P) hmx hv
          rcases hmm with ⟨hn, _⟩ | ⟨y', hy', hle, hmr⟩
          · cases hn
          · cases hy'
            have hlec : mm ≤ cap := by
              rw [Cp.el_eq] at hle
              cases c with
              | ex k => cases hc; exact hle
              | un z => exact Nat.le_trans hle hl
            have hmr' : ∀ code w, (Instr.sliceBound (ρ y) cap code).run P w = .ok mm w := fun code w => hmr cap (by
              rw [Cp.el_eq]
              cases c with
              | ex k => cases hc; exact Nat.le_refl _
              | un z => exact hl) code w
            obtain ⟨i, j, hij, hjm, rfl, hb⟩ := slRow_ok (P := P) hlo hhi hv (fun e => by cases e)
            refine ⟨.slice (some (if mm = i then a else a.add (i * inf.size))) (j - i) (mm - i), .slice _ _ _ _ m _ _ hm rfl (by omega) (fun hc => ?_), fun w => ?_⟩
            · obtain ⟨ha1, ha2⟩ := ha (by omega)
              rw [if_neg (by omega), ha1, addr_add]
              exact ⟨by simp only [Addr.mk.injEq, true_and, and_true]; omega, by omega⟩
            · have hb2 : (Instr.sliceBounds true l cap (lo.map ρ) (some (ρ z)) (some (ρ y))).run P w = .ok (i, j, mm) w :=
                bounds_some (fun code => hmr' code w) (fun c1 c2 => by have := hb _ (Nat.le_refl _) c1 c2 w; cases lo <;> exact this) true
              simp [Instr.sliceAt, Instr.slice, run_underlying hd, ex, hb2, run_sizeOf hinf]
              split <;> rfl
  case nilSlice =>
    have ex := hx.nilSlice_inv
    simp only [elemK, sizeK, oEl_eq] at hv
    split at hv
    · cases hv
    · rename_i el hel
      split at hv
      · cases hv
      · rename_i inf hinf
        have hd := elemD_inv hel
        split at hv
        · cases hv
        · rename_i u hu
          cases hv
          refine ⟨_, .nilSlice, fun w => ?_⟩
          unfold slNil at hu
          rw [oEl_eq] at hu
          split at hu
          · obtain ⟨i, j, hij, hjm, rfl, hb⟩ := slRow_ok (P := P) hlo hhi hu fun _ => Nat.le_refl _
            obtain rfl : j = 0 := by omega
            obtain rfl : i = 0 := by omega
            have hb2 : (Instr.sliceBounds true 0 0 (lo.map ρ) (hi.map ρ) none).run P w = .ok (0, 0, 0) w :=
              bounds_none (fun c1 c2 => by have := hb _ (Nat.le_refl _) c1 c2 w; cases lo <;> cases hi <;> exact this) true
            simp [Instr.sliceAt, Instr.slice, run_underlying hd, ex, hb2, run_sizeOf hinf]
          · rename_i y
            rw [oEl_eq] at hu
            split at hu
            · cases hu
            rename_i z
            obtain ⟨mm, hu, hmm⟩ := bound_ok (P := P) hmx hu
            rcases hmm with ⟨hn, _⟩ | ⟨y', hy', hle, hmr⟩
            · cases hn
            · cases hy'
              obtain rfl : mm = 0 := by omega
              obtain ⟨i, j, hij, hjm, rfl, hb⟩ := slRow_ok (P := P) hlo hhi hu (fun e => by cases e)
              obtain rfl : j = 0 := by omega
              obtain rfl : i = 0 := by omega
              have hb2 : (Instr.sliceBounds true 0 0 (lo.map ρ) (some (ρ z)) (some (ρ y))).run P w = .ok (0, 0, 0) w :=
                bounds_some (fun code => hmr 0 (Nat.le_refl _) code w) (fun c1 c2 => by have := hb _ (Nat.le_refl _) c1 c2 w; cases lo <;> exact this) true
              simp [Instr.sliceAt, Instr.slice, run_underlying hd, ex, hb2, run_sizeOf hinf]
end Go.Abs
namespace Go.Abs
variable {P : Program} {ι : Inj} {o : Oper}
noncomputable def eqN (P : Program) (n : Nat) : EqF := Nat.rec (motive := fun _ => EqF) (fun _ _ _ => none) (fun _ ih t x y => eqD P ih t x y (P.underlying t)) n
theorem eqFields_ok {eq : EqF} {d : Nat} (heq : ∀ t ax ay x y b, eq t ax ay = some b → VR ι ax x → VR ι ay y → ∀ w, (Op.equalIn d t x y).run P w = .ok b w) {xs ys : List AV} {a a' : Array Value}
    (hx : VRs ι xs a.toList) (hy : VRs ι ys a'.toList) (cx : ∀ v ∈ xs, v.cell = true) (cy : ∀ v ∈ ys, v.cell = true) :
    ∀ (fs : List Field) (b : Bool), eqFields P eq xs ys fs = some b → ∀ w, (Op.eqFields d a a' fs).run P w = .ok b w
  | [], b, h, w => by cases h; rfl
  | f :: fs, b, h, w => by
    have ih := eqFields_ok heq hx hy cx cy fs
    change bEl (f.name == "_") (eqFields P eq xs ys fs) (oEl (partV P f.type xs f.offset) none fun x => oEl (partV P f.type ys f.offset) none fun y => andO (eq f.type x y) (eqFields P eq xs ys fs)) = some b at h
    simp only [bEl_eq, oEl_eq, andO] at h
    unfold Op.eqFields
    split at h
    · rename_i hn
      have hn : f.name = "_" := by simpa using hn
      rw [if_neg (by simp [hn])]
      exact ih b h w
    · rename_i hn
      have hn : f.name ≠ "_" := by simpa using hn
      rw [if_pos hn]
      split at h
      · cases h
      · rename_i vx hvx
        split at h
        · cases h
        · rename_i vy hvy
          obtain ⟨x, hxr, hxe⟩ := part_ok hx cx hvx
          obtain ⟨y, hyr, hye⟩ := part_ok hy cy hvy
          split at h
          · cases h
          · rename_i r hr
            have e := heq _ _ _ _ _ _ hr hxr hyr
            simp only [Sem.run_bind, hxe, hye, e, Result.andThen]
            cases r
            · simp at h; subst h; simp
            · simp at h ⊢; exact ih b h w
theorem eqPtr_ok {t e : TypeId} (ht : P.underlying t = some (.pointer e)) {i : TypeInfo} (hi : P.info? e = some i) (hz : i.size ≠ 0) {ax ay : AV} {x y : Value} {b : Bool} (h : eqPtr ax ay = some b)
    (hx : VR ι ax x) (hy : VR ι ay y) (d : Nat) (w : World) : (Op.equalIn (d + 1) t x y).run P w = .ok b w := by
  simp only [eqPtr, onPtr_eq, onNilPtr_eq] at h
  split at h
  · rename_i b1 o1
    obtain ⟨m, hm, hs, rfl⟩ := hx.ptr_inv
    split at h
    · rename_i b2 o2
      obtain ⟨m', hm', hs', rfl⟩ := hy.ptr_inv
      rw [bEl_eq] at h
      split at h
      · rename_i hb
        obtain rfl : b1 = b2 := Nat.eq_of_beq_eq_true hb
        rw [hm] at hm'; cases hm'
        cases h
        simp [Op.equalIn, run_underlying ht, run_sizeOf hi, hz, sameAddr]
        rw [Bool.eq_iff_iff]; simp; omega
      · cases h
    · split at h
      · cases h
        have := hy.nilPtr_inv; subst this
        simp [Op.equalIn, run_underlying ht]
      · cases h
  · split at h
    · have := hx.nilPtr_inv; subst this
      split at h
      · rename_i b2 o2
        obtain ⟨m', hm', hs', rfl⟩ := hy.ptr_inv
        cases h
        simp [Op.equalIn, run_underlying ht]
      · split at h
        · cases h
          have := hy.nilPtr_inv; subst this
          simp [Op.equalIn, run_underlying ht]
        · cases h
    · cases h
theorem eqN_ok : ∀ (n d : Nat) (t : TypeId) (ax ay : AV) (x y : Value) (b : Bool), eqN P n t ax ay = some b → VR ι ax x → VR ι ay y → n ≤ d → ∀ w, (Op.equalIn d t x y).run P w = .ok b w
  | 0, _, _, _, _, _, _, _, h, _, _, _, _ => by cases h
  | n + 1, 0, _, _, _, _, _, _, _, _, _, hd, _ => by omega
  | n + 1, d + 1, t, ax, ay, x, y, b, h, hx, hy, hd, w => by
    have ih := fun t ax ay x y b h hx hy => eqN_ok n d t ax ay x y b h hx hy (by omega)
    change eqD P (eqN P n) t ax ay (P.underlying t) = some b at h
    unfold eqD at h
    split at h
    · rename_i hu
      simp only [onBool_eq] at h
      split at h
      · have := hx.bool_inv; subst this
        split at h
        · have := hy.bool_inv; subst this
          cases h
          rw [run_equalIn_bool' w d t _ _ hu, beqB_eq]
        · cases h
      · cases h
    · rename_i k hu
      simp only [onInt_eq] at h
      split at h
      · have := hx.int_inv; subst this
        split at h
        · have := hy.int_inv; subst this
          rw [bEl_eq] at h
          split at h
          · rename_i hk
            have := keq_eq _ _ hk; subst this
            cases h
            rw [run_equalIn_int w d t _ _ _ _ hu, ieq_eq]
          · cases h
        · cases h
      · cases h
    · rename_i hu
      simp only [onStr_eq] at h
      split at h
      · obtain ⟨s1, rfl, e1⟩ := hx.str_inv
        split at h
        · obtain ⟨s2, rfl, e2⟩ := hy.str_inv
          cases h
          rw [run_equalIn_string w d t _ _ hu, leq_eq, ← e1, ← e2]
          congr 1
          rw [ByteArray.toList_eq, ByteArray.toList_eq, Bool.eq_iff_iff, beq_iff_eq, beq_iff_eq]
          exact (List.map_inj_right fun a b hh => UInt8.toNat_inj.1 hh).symm
        · cases h
      · cases h
    · rename_i e hu
      simp only [sizeK, oEl_eq, nEl_eq] at h
      split at h
      · cases h
      · rename_i i hi
        split at h
        · cases h
        · rename_i z hz
          exact eqPtr_ok hu hi (by omega) h hx hy d w
    · rename_i e hu
      simp only [onSlice_eq, onNilSlice_eq] at h
      split at h
      · obtain ⟨m1, a1, c1, _, _, _, _, rfl⟩ := hx.slice_inv
        change onNilSlice ay none no = some b at h
        rw [onNilSlice_eq] at h
        split at h
        · have := hy.nilSlice_inv; subst this
          cases h
          simp [Op.equalIn, run_underlying hu]
        · cases h
      · split at h
        · have := hx.nilSlice_inv; subst this
          change onSlice ay (onNilSlice ay none yes) (fun _ _ _ _ => no) = some b at h
          simp only [onSlice_eq, onNilSlice_eq] at h
          split at h
          · obtain ⟨m1, a1, c1, _, _, _, _, rfl⟩ := hy.slice_inv
            cases h
            simp [Op.equalIn, run_underlying hu]
          · split at h
            · have := hy.nilSlice_inv; subst this
              cases h
              simp [Op.equalIn, run_underlying hu]
            · cases h
        · cases h
    · rename_i k e hu
      simp only [onMap_eq, onNilMap_eq] at h
      split at h
      · obtain ⟨m1, _, rfl⟩ := hx.map_inv
        change onNilMap ay none no = some b at h
        rw [onNilMap_eq] at h
        split at h
        · have := hy.nilMap_inv; subst this
          cases h
          simp [Op.equalIn, run_underlying hu]
        · cases h
      · split at h
        · have := hx.nilMap_inv; subst this
          change onMap ay (onNilMap ay none yes) (fun _ => no) = some b at h
          simp only [onMap_eq, onNilMap_eq] at h
          split at h
          · obtain ⟨m1, _, rfl⟩ := hy.map_inv
            cases h
            simp [Op.equalIn, run_underlying hu]
          · split at h
            · have := hy.nilMap_inv; subst this
              cases h
              simp [Op.equalIn, run_underlying hu]
            · cases h
        · cases h
    · rename_i hu
      simp only [onFunc_eq, onNilFunc_eq] at h
      split at h
      · obtain ⟨f1, a1, b1, rfl, _⟩ := hx.func_inv
        change onNilFunc ay none no = some b at h
        rw [onNilFunc_eq] at h
        split at h
        · have := hy.nilFunc_inv; subst this
          cases h
          simp [Op.equalIn, run_underlying hu]
        · cases h
      · split at h
        · have := hx.nilFunc_inv; subst this
          change onFunc ay (onNilFunc ay none yes) (fun _ _ _ => no) = some b at h
          simp only [onFunc_eq, onNilFunc_eq] at h
          split at h
          · obtain ⟨f1, a1, b1, rfl, _⟩ := hy.func_inv
            cases h
            simp [Op.equalIn, run_underlying hu]
          · split at h
            · have := hy.nilFunc_inv; subst this
              cases h
              simp [Op.equalIn, run_underlying hu]
            · cases h
        · cases h
    · rename_i ms hu
      simp only [onIface_eq, onNilIface_eq] at h
      split at h
      · obtain ⟨y1, rfl, _⟩ := hx.iface_inv
        split at h
        · have := hy.nilIface_inv; subst this
          cases h
          simp [Op.equalIn, run_underlying hu]
        · cases h
      · split at h
        · have := hx.nilIface_inv; subst this
          split at h
          · obtain ⟨y1, rfl, _⟩ := hy.iface_inv
            cases h
            simp [Op.equalIn, run_underlying hu]
          · split at h
            · have := hy.nilIface_inv; subst this
              cases h
              simp [Op.equalIn, run_underlying hu]
            · cases h
        · cases h
    · rename_i fs hu
      rw [bEl_eq] at h
      split at h
      · cases h
      · rename_i hp
        simp only [onAgg_eq] at h
        split at h
        · obtain ⟨a, rfl, ha, ca⟩ := hx.agg_inv
          split at h
          · obtain ⟨a', rfl, ha', ca'⟩ := hy.agg_inv
            have hf : P.fieldsOf t = fs := by simp [Program.fieldsOf, hu]
            rw [run_equalIn_struct w d t a a' (by rw [hf]; exact hu) (by simpa using hp), hf]
            exact eqFields_ok ih ha ha' ca ca' fs.toList b h w
          · cases h
        · cases h
    · cases h
/-! ### Operators -/
theorem isK_const {x : Operand} (h : isK x = true) : ∃ v, x = .const v := by
  cases x with
  | const v => exact ⟨v, rfl⟩
  | _ => cases h
theorem bytesLess_eq : ∀ a b : List UInt8, Op.bytesLess a b = llt (a.map UInt8.toNat) (b.map UInt8.toNat)
  | _, [] => by cases ‹List UInt8› <;> rfl
  | [], _ :: _ => rfl
  | x :: a, y :: b => by
    show (x < y || (x == y && Op.bytesLess a b)) = bEl (Nat.blt x.toNat y.toNat) true (bEl (Nat.beq x.toNat y.toNat) (llt (a.map UInt8.toNat) (b.map UInt8.toNat)) false)
    rw [bytesLess_eq a b, bEl_eq, bEl_eq]
    have e1 : decide (x < y) = Nat.blt x.toNat y.toNat := by
      rw [Bool.eq_iff_iff, decide_eq_true_iff, Nat.blt_eq]; exact UInt8.lt_iff_toNat_lt
    have e2 : (x == y) = Nat.beq x.toNat y.toNat := by
      rw [Bool.eq_iff_iff, beq_iff_eq, Nat.beq_eq]; exact UInt8.toNat_inj.symm
    rw [e2]
    simp only [e1]
    cases Nat.blt x.toNat y.toNat <;> cases Nat.beq x.toNat y.toNat <;> simp
theorem appF_eq : ∀ a b : List Nat, appF a b = a ++ b
  | [], _ => rfl
  | x :: a, b => by
    show lEl (appF a b) [x] (fun y l => x :: y :: l) = _
    rw [appF_eq a b, lEl_eq]
    cases h : a ++ b <;> simp [h]
theorem bytes_append (a b : ByteArray) : bytesOf (a ++ b) = bytesOf a ++ bytesOf b := by simp [bytesOf, ByteArray.data_append]
theorem int_ok {op : BinOp} {k j : IntKind} {a b : Int} {v : AV} {t : TypeId} (h : intOps op k a j b = some v) : ∃ x, VR ι v x ∧ ∀ w, (Go.binOp op t (.int k a) (.int j b)).run P w = .ok x w := by
  cases op
  case shl =>
    change shlOp k a b = some v at h
    simp only [shlOp, iEl_eq, vInt] at h
    split at h
    · cases h
      refine ⟨_, .int _ _, fun w => ?_⟩
      simp [Go.binOp, Op.shift, wrapf_eq]
      intro hh; omega
    · cases h
  case shr =>
    change shrOp k a b = some v at h
    simp only [shrOp, iEl_eq] at h
    split at h
    · cases h
      refine ⟨_, .int _ _, fun w => ?_⟩
      simp [Go.binOp, Op.shift]
      intro hh; omega
    · cases h
  all_goals
    change bEl (keq k j) (intOp _ k a b) none = some v at h
    rw [bEl_eq] at h
    split at h
    · rename_i hk
      have := keq_eq _ _ hk; subst this
      first
        | (change vInt k (iadd a b) = some v at h; cases h; exact ⟨_, .int _ _, fun w => by simp [Go.binOp, Op.intArith, wrapf_eq, iadd_eq]⟩)
        | (change vInt k (isub a b) = some v at h; cases h; exact ⟨_, .int _ _, fun w => by simp [Go.binOp, Op.intArith, wrapf_eq, isub_eq]⟩)
        | (change vInt k (imul a b) = some v at h; cases h; exact ⟨_, .int _ _, fun w => by simp [Go.binOp, Op.intArith, wrapf_eq, imul_eq]⟩)
        | (change bEl (ieq b 0) none (vInt k (iquo a b)) = some v at h
           rw [bEl_eq, ieq_eq] at h
           split at h
           · cases h
           · rename_i hz
             cases h
             exact ⟨_, .int _ _, fun w => by simp [Go.binOp, Op.intDiv, wrapf_eq, iquo_eq]; intro hb; simp [hb] at hz⟩)
        | (change bEl (ieq b 0) none (some (.int k (irem a b))) = some v at h
           rw [bEl_eq, ieq_eq] at h
           split at h
           · cases h
           · rename_i hz
             cases h
             exact ⟨_, .int _ _, fun w => by simp [Go.binOp, Op.intDiv, irem_eq]; intro hb; simp [hb] at hz⟩)
        | (change bitOp Nat.land k a b = some v at h; cases h
           exact ⟨_, .int _ _, fun w => by simp only [Go.binOp, Op.intBits, ne_eq, not_true_eq_false, if_false, Sem.run_pure]; rw [wrapf_eq, bitsU_eq, bitsU_eq, BitVec.toNat_and]; rfl⟩)
        | (change bitOp Nat.lor k a b = some v at h; cases h
           exact ⟨_, .int _ _, fun w => by simp only [Go.binOp, Op.intBits, ne_eq, not_true_eq_false, if_false, Sem.run_pure]; rw [wrapf_eq, bitsU_eq, bitsU_eq, BitVec.toNat_or]; rfl⟩)
        | (change bitOp Nat.xor k a b = some v at h; cases h
           exact ⟨_, .int _ _, fun w => by simp only [Go.binOp, Op.intBits, ne_eq, not_true_eq_false, if_false, Sem.run_pure]; rw [wrapf_eq, bitsU_eq, bitsU_eq, BitVec.toNat_xor]; rfl⟩)
        | (change vBool (ieq a b) = some v at h; cases h; exact ⟨_, .bool _, fun w => by simp [Go.binOp, Op.intCmp, ieq_eq]⟩)
        | (change vBool (bnot (ieq a b)) = some v at h; cases h; exact ⟨_, .bool _, fun w => by simp [Go.binOp, Op.intCmp, ieq_eq, bnot_eq, bne]⟩)
        | (change vBool (ilt a b) = some v at h; cases h; exact ⟨_, .bool _, fun w => by simp [Go.binOp, Op.intCmp, ilt_eq]⟩)
        | (change vBool (ile a b) = some v at h; cases h; exact ⟨_, .bool _, fun w => by simp [Go.binOp, Op.intCmp, ile_eq]⟩)
        | (change vBool (ilt b a) = some v at h; cases h; exact ⟨_, .bool _, fun w => by simp [Go.binOp, Op.intCmp, ilt_eq]⟩)
        | (change vBool (ile b a) = some v at h; cases h; exact ⟨_, .bool _, fun w => by simp [Go.binOp, Op.intCmp, ile_eq]⟩)
        | (cases h; done)
    · cases h
theorem llt_total : ∀ a b : List Nat, (llt a b || leq a b) = !llt b a
  | [], [] => rfl
  | [], _ :: _ => rfl
  | _ :: _, [] => rfl
  | x :: a, y :: b => by
    have ih := llt_total a b
    show (bEl (Nat.blt x y) true (bEl (Nat.beq x y) (llt a b) false) || bEl (Nat.beq x y) (leq a b) false) = !(bEl (Nat.blt y x) true (bEl (Nat.beq y x) (llt b a) false))
    simp only [bEl_eq]
    rcases Nat.lt_trichotomy x y with h | h | h
    · have h1 : Nat.blt x y = true := by simpa using h
      have h2 : Nat.blt y x = false := by rw [← Bool.not_eq_true, Nat.blt_eq]; omega
      have h3 : Nat.beq y x = false := by rw [← Bool.not_eq_true, Nat.beq_eq]; omega
      simp [h1, h2, h3]
    · subst h
      have h1 : Nat.blt x x = false := by rw [← Bool.not_eq_true, Nat.blt_eq]; omega
      have h2 : Nat.beq x x = true := by simp
      simpa [h1, h2] using ih
    · have h1 : Nat.blt y x = true := by simpa using h
      have h2 : Nat.blt x y = false := by rw [← Bool.not_eq_true, Nat.blt_eq]; omega
      have h3 : Nat.beq x y = false := by rw [← Bool.not_eq_true, Nat.beq_eq]; omega
      simp [h1, h2, h3]
theorem str_ok {op : BinOp} {a b : ByteArray} {v : AV} {t : TypeId} (h : strOp op (bytesOf a) (bytesOf b) = some v) : ∃ x, VR ι v x ∧ ∀ w, (Go.binOp op t (.string a) (.string b)).run P w = .ok x w := by
  have e : (a.toList == b.toList) = leq (bytesOf a) (bytesOf b) := by
    rw [leq_eq, ByteArray.toList_eq, ByteArray.toList_eq, Bool.eq_iff_iff, beq_iff_eq, beq_iff_eq]
    exact (List.map_inj_right fun a b hh => UInt8.toNat_inj.1 hh).symm
  have l : ∀ a b : ByteArray, Op.bytesLess a.toList b.toList = llt (bytesOf a) (bytesOf b) := fun a b => by rw [bytesLess_eq, ByteArray.toList_eq, ByteArray.toList_eq]; rfl
  cases op
  case add =>
    change bEl (Nat.ble (Nat.add (len (bytesOf a)) (len (bytesOf b))) 4294967296) (some (.str (appF (bytesOf a) (bytesOf b)))) none = some v at h
    rw [bEl_eq, len_eq, len_eq, bytes_length, bytes_length] at h
    split at h
    · rename_i hle
      have hle : a.size + b.size ≤ 4294967296 := Nat.le_of_ble_eq_true hle
      cases h
      refine ⟨.string (a ++ b), .str _ _ (by rw [bytes_append, appF_eq]), fun w => ?_⟩
      have hm : ¬ ((a.size + b.size : Nat) : Int) > IntKind.i64.max := by
        have : IntKind.i64.max = 9223372036854775807 := by decide
        rw [this]; omega
      simp only [Go.binOp, Op.stringOp, if_neg hm, Sem.run_pure]
    · cases h
  all_goals first
    | (cases h; done)
    | (change vBool (leq _ _) = some v at h; cases h; exact ⟨_, .bool _, fun w => by simp [Go.binOp, Op.stringOp, e]⟩)
    | (change vBool (bnot (leq _ _)) = some v at h; cases h; exact ⟨_, .bool _, fun w => by simp [Go.binOp, Op.stringOp, e, bnot_eq]⟩)
    | (change vBool (llt (bytesOf a) (bytesOf b)) = some v at h; cases h; exact ⟨_, .bool _, fun w => by simp [Go.binOp, Op.stringOp, l]⟩)
    | (change vBool (bnot (llt (bytesOf b) (bytesOf a))) = some v at h; cases h; exact ⟨_, .bool _, fun w => by simp [Go.binOp, Op.stringOp, l, e, bnot_eq, llt_total]⟩)
    | (change vBool (llt (bytesOf b) (bytesOf a)) = some v at h; cases h; exact ⟨_, .bool _, fun w => by simp only [Go.binOp, Op.stringOp, l, e, llt_total, Bool.not_not, Sem.run_pure]⟩)
    | (change vBool (bnot (llt (bytesOf a) (bytesOf b))) = some v at h; cases h; exact ⟨_, .bool _, fun w => by simp [Go.binOp, Op.stringOp, l, bnot_eq]⟩)
theorem eqN_plain {n : Nat} {t : TypeId} {ax ay : AV} {x : Value} {b : Bool} (h : eqN P n t ax ay = some b) (hi : ∀ k m, ax ≠ .int k m) (hs : ∀ s, ax ≠ .str s) (hx : VR ι ax x) :
    (∀ y, (Go.binOp .eql t x y) = (do pure (.bool (← Op.equal t x y)))) ∧ (∀ y, (Go.binOp .neq t x y) = (do pure (.bool (!(← Op.equal t x y))))) := by
  have hn : ax ≠ .any ∧ ax ≠ .undef := by
    constructor <;> rintro rfl
    · cases n with
      | zero => cases h
      | succ n =>
        change eqD P (eqN P n) t .any ay (P.underlying t) = some b at h
        unfold eqD at h
        split at h <;> first
          | (cases h; done)
          | (simp only [sizeK, oEl_eq, nEl_eq] at h; split at h <;> first | (cases h; done) | (split at h <;> cases h; done))
          | (rw [bEl_eq] at h; split at h <;> (cases h; done))
    · cases n with
      | zero => cases h
      | succ n =>
        change eqD P (eqN P n) t .undef ay (P.underlying t) = some b at h
        unfold eqD at h
        split at h <;> first
          | (cases h; done)
          | (simp only [sizeK, oEl_eq, nEl_eq] at h; split at h <;> first | (cases h; done) | (split at h <;> cases h; done))
          | (rw [bEl_eq] at h; split at h <;> (cases h; done))
  cases hx with
  | any => exact absurd rfl hn.1
  | undef => exact absurd rfl hn.2
  | int k m => exact absurd rfl (hi k m)
  | str s l e => exact absurd rfl (hs l)
  | _ => exact ⟨fun y => by cases y <;> rfl, fun y => by cases y <;> rfl⟩
theorem eqN_known {n : Nat} {t : TypeId} {ax ay : AV} {b : Bool} (h : eqN P n t ax ay = some b) : ax ≠ .any ∧ ax ≠ .undef := by
  constructor <;> rintro rfl
  · cases n with
    | zero => cases h
    | succ n =>
      change eqD P (eqN P n) t .any ay (P.underlying t) = some b at h
      unfold eqD at h
      split at h <;> first
        | (cases h; done)
        | (simp only [sizeK, oEl_eq, nEl_eq] at h; split at h <;> first | (cases h; done) | (split at h <;> cases h; done))
        | (rw [bEl_eq] at h; split at h <;> (cases h; done))
  · cases n with
    | zero => cases h
    | succ n =>
      change eqD P (eqN P n) t .undef ay (P.underlying t) = some b at h
      unfold eqD at h
      split at h <;> first
        | (cases h; done)
        | (simp only [sizeK, oEl_eq, nEl_eq] at h; split at h <;> first | (cases h; done) | (split at h <;> cases h; done))
        | (rw [bEl_eq] at h; split at h <;> (cases h; done))
theorem guard_ok {op : BinOp} {t : TypeId} {x y : Operand} {ax : AV} {vx vy : Value} (h : guardB P (constB x y) t ax = true) (hx : VR ι ax vx) (h1 : ax ≠ .any) (h2 : ax ≠ .undef) (w : World) :
    (eqGuard op t x y vx vy).run P w = .ok () w := by
  cases hx with
  | any => exact absurd rfl h1
  | undef => exact absurd rfl h2
  | agg l a ha hc =>
    cases vy with
    | agg b =>
      change bnot (P.eqGuardType P.depth t) = true at h
      exact run_eqGuard_agg w op t x y a b (by simpa [bnot_eq] using h)
    | _ => cases op <;> simp [eqGuard]
  | nilIface =>
    change constB x y = true at h
    have hc : (∃ v, x = .const v) ∨ (∃ v, y = .const v) := by
      unfold constB at h
      rw [bEl_eq] at h
      split at h
      · rename_i hk
        exact .inl (isK_const hk)
      · exact .inr (isK_const h)
    cases vy with
    | nilIface =>
      rcases hc with ⟨v, rfl⟩ | ⟨v, rfl⟩
      · cases op <;> simp [eqGuard]
      · cases op <;> cases x <;> simp [eqGuard]
    | _ => cases op <;> simp [eqGuard]
  | _ => cases op <;> simp [eqGuard]
theorem q_bin {op : BinOp} {ty yt : TypeId} {x y : Operand} (h : o.op = .binOp op ty x y yt) : Q0R P o (qBin P op ty x y) := by
  intro ι t ρ hO v hv
  have hx := hO x (by rw [h]; exact mem1 rfl)
  have hy := hO y (by rw [h]; exact mem2 rfl)
  have hrun : ∀ w, (execOp ρ o).run P w = ((eqGuard op ty x y (ρ x) (ρ y)).run P w).andThen fun _ w' => ((Go.binOp op ty (ρ x) (ρ y)).run P w').andThen fun v w'' => .ok (.value v) w'' := fun w => by
    simp [execOp, h]
    try (generalize (eqGuard op ty x y (ρ x) (ρ y)).run P w = r; cases r <;> rfl)
  simp only [qBin, binOp, onInt_eq] at hv
  split at hv
  · rename_i k a e
    rw [e] at hx
    have ex := hx.int_inv
    split at hv
    · rename_i j b e2
      rw [e2] at hy
      have ey := hy.int_inv
      obtain ⟨r, hr, hrr⟩ := int_ok (P := P) (t := ty) (ι := ι) hv
      refine ⟨r, hr, fun w => ?_⟩
      have hg : (eqGuard op ty x y (ρ x) (ρ y)).run P w = .ok () w := by rw [ex, ey]; cases op <;> simp [eqGuard]
      rw [hrun, hg, ex, ey]
      simp only [Result.andThen, hrr]
    · cases hv
  · rename_i hni
    simp only [onStr_eq] at hv
    split at hv
    · rename_i s1 e
      rw [e] at hx
      obtain ⟨b1, ex, e1⟩ := hx.str_inv
      split at hv
      · rename_i s2 e2
        rw [e2] at hy
        obtain ⟨b2, ey, e3⟩ := hy.str_inv
        rw [← e1, ← e3] at hv
        obtain ⟨r, hr, hrr⟩ := str_ok (P := P) (t := ty) (ι := ι) hv
        refine ⟨r, hr, fun w => ?_⟩
        have hg : (eqGuard op ty x y (ρ x) (ρ y)).run P w = .ok () w := by rw [ex, ey]; cases op <;> simp [eqGuard]
        rw [hrun, hg, ex, ey]
        simp only [Result.andThen, hrr]
      · cases hv
    · rename_i hns
      have key : ∀ b, eqOp P (constB x y) ty (opd x t) (opd y t) = some b → ∀ w, (eqGuard op ty x y (ρ x) (ρ y)).run P w = .ok () w ∧ (Op.equal ty (ρ x) (ρ y)).run P w = .ok b w ∧
          (Go.binOp .eql ty (ρ x) (ρ y) = (do pure (.bool (← Op.equal ty (ρ x) (ρ y))))) ∧ (Go.binOp .neq ty (ρ x) (ρ y) = (do pure (.bool (!(← Op.equal ty (ρ x) (ρ y)))))) := by
        intro b hb w
        unfold eqOp at hb
        rw [bEl_eq] at hb
        split at hb
        · rename_i hg
          have hb : eqN P 8 ty (opd x t) (opd y t) = some b := hb
          obtain ⟨n1, n2⟩ := eqN_known hb
          obtain ⟨p1, p2⟩ := eqN_plain hb (fun k m e => hni k m e) (fun s e => hns s e) hx
          exact ⟨guard_ok hg hx n1 n2 w, eqN_ok 8 10000 ty _ _ _ _ b hb hx hy (by omega) w, p1 _, p2 _⟩
        · cases hb
      unfold othOp at hv
      cases op <;> simp only [BinOp.el] at hv <;> try (cases hv; done)
      · rw [oEl_eq] at hv
        split at hv
        · cases hv
        · rename_i b hb
          cases hv
          refine ⟨_, .bool b, fun w => ?_⟩
          obtain ⟨k1, k2, k3, k4⟩ := key b hb w
          rw [hrun, k1, k3]
          simp [k2, Result.andThen]
      · rw [oEl_eq] at hv
        split at hv
        · cases hv
        · rename_i b hb
          cases hv
          refine ⟨_, .bool (bnot b), fun w => ?_⟩
          obtain ⟨k1, k2, k3, k4⟩ := key b hb w
          rw [hrun, k1, k4]
          simp [k2, Result.andThen, bnot_eq]
end Go.Abs
namespace Go.Abs
variable {P : Program} {ι : Inj} {o : Oper}
/-! ### Rows that are written -/
noncomputable def putL : List AV → Nat → Cl → Cl
  | [], _, t => t
  | v :: l, o, t => putL l (o + 1) (put4 t (p4 o) v)
theorem storeL_eq {β : Type} (d : β) : ∀ (l : List AV) (o : Nat) (t : Cl) (k : Cl → β), storeL d l o t k = if l.all AV.cell = true then k (putL l o t) else d
  | [], o, t, k => rfl
  | v :: l, o, t, k => by
    show fCell v d (fun v => fN8 (put4 t (p4 o) v) fun t => fNat (Nat.succ o) fun o => storeL d l o t k) = _
    rw [fCell_eq]
    by_cases h : v.cell = true
    · rw [if_pos h, fN8_eq, fNat_eq, storeL_eq d l]
      simp [h, putL]
    · rw [if_neg h, if_neg (by simp [h])]
theorem get4_putL : ∀ (l : List AV) (o : Nat) (t : Cl) (i : Nat), i < 4096 → o + l.length ≤ 4096 → get4 (putL l o t) (p4 i) = if o ≤ i ∧ i < o + l.length then (l[i - o]?).getD .any else get4 t (p4 i)
  | [], o, t, i, _, _ => by simp [putL]; omega
  | v :: l, o, t, i, hi, ho => by
    simp only [List.length_cons] at ho
    rw [putL, get4_putL l (o + 1) _ i hi (by omega)]
    by_cases h : i = o
    · subst h
      rw [if_neg (by omega), if_pos (by simp), get4_put]; simp
    · rw [get4_put_ne _ _ (fun e => h (p4_inj hi (by omega) e.symm))]
      by_cases h2 : o + 1 ≤ i ∧ i < o + 1 + l.length
      · rw [if_pos h2, if_pos (by simp; omega)]
        have : i - o = (i - (o + 1)) + 1 := by omega
        rw [this]; simp
      · rw [if_neg h2, if_neg (by simp; omega)]
def writeL : Array Value → Nat → List Value → Array Value
  | cs, _, [] => cs
  | cs, off, v :: l => writeL (cs.setIfInBounds off v) (off + 1) l
theorem writeL_size : ∀ (l : List Value) (cs : Array Value) (off : Nat), (writeL cs off l).size = cs.size
  | [], _, _ => rfl
  | v :: l, cs, off => by rw [writeL, writeL_size l]; simp
theorem writeL_get : ∀ (l : List Value) (cs : Array Value) (off i : Nat), off + l.length ≤ cs.size → (writeL cs off l)[i]? = if off ≤ i ∧ i < off + l.length then l[i - off]? else cs[i]?
  | [], cs, off, i, _ => by simp [writeL]; omega
  | v :: l, cs, off, i, h => by
    simp only [List.length_cons] at h
    rw [writeL, writeL_get l _ _ _ (by simp; omega)]
    by_cases e : i = off
    · subst e
      rw [if_neg (by omega), if_pos (by simp), Array.getElem?_setIfInBounds_self_of_lt (by omega)]; simp
    · rw [Array.getElem?_setIfInBounds_ne (fun x => e x.symm)]
      by_cases h2 : off + 1 ≤ i ∧ i < off + 1 + l.length
      · rw [if_pos h2, if_pos (by simp; omega)]
        have : i - off = (i - (off + 1)) + 1 := by omega
        rw [this]; simp
      · rw [if_neg h2, if_neg (by simp; omega)]
/-- the cells of a row, from a place on -/
def RowS (ι : Inj) (t : Cl) (s n : Nat) (cs : Array Value) : Prop := ∀ o, s ≤ o → o < n → (get4 t (p4 o)).cell = true ∧ ∃ v, cs[o - s]? = some v ∧ VR ι (get4 t (p4 o)) v
theorem RowS.write {t : Cl} {s n : Nat} {cs : Array Value} (h : RowS ι t s n cs) {l : List AV} {l' : List Value} (hl : VRs ι l l') (hc : l.all AV.cell = true) {p : Nat} (hp : s ≤ p) (hn : p + l.length ≤ 4096) (h4 : n ≤ 4096) (hcs : p - s + l.length ≤ cs.size)
    {n' : Nat} (hn' : n' ≤ max n (p + l.length)) (hgap : p ≤ n) : RowS ι (putL l p t) s n' (writeL cs (p - s) l') := by
  intro o ho hon
  have hlen := hl.length
  rw [writeL_get _ _ _ _ (by omega)]
  by_cases hin : p ≤ o ∧ o < p + l.length
  · rw [get4_putL l p t o (by omega) hn, if_pos hin, if_pos (by omega)]
    have hlt : o - p < l.length := by omega
    have e : o - s - (p - s) = o - p := by omega
    rw [e]
    obtain ⟨x, hx, hr⟩ := hl.get (o - p) l[o - p] (List.getElem?_eq_getElem hlt)
    rw [List.getElem?_eq_getElem hlt]
    exact ⟨List.all_eq_true.1 hc _ (List.getElem_mem hlt), x, hx, hr⟩
  · have hon' : o < n := by
      rcases Nat.lt_or_ge o n with h1 | h1
      · exact h1
      · exfalso; apply hin; omega
    rw [if_neg (by omega)]
    rw [get4_putL l p t o (by omega) hn, if_neg hin]
    exact h o ho hon'
theorem RowS.nil (t : Cl) (s : Nat) (cs : Array Value) : RowS ι t s 0 cs := fun o _ h => absurd h (Nat.not_lt_zero _)
/-- a row laid anew -/
theorem rowOf_eq {β : Type} (d : β) (l : List AV) (k : Cl → β) : rowOf d l k = if l.all AV.cell = true then k (putL l 0 (all4 .undef)) else d := storeL_eq d l 0 _ k
theorem RowS.new {l : List AV} {l' : List Value} (hl : VRs ι l l') (hc : l.all AV.cell = true) (hn : l.length ≤ 4096) : RowS ι (putL l 0 (all4 .undef)) 0 l.length l'.toArray := by
  intro o _ ho
  rw [get4_putL l 0 _ o (by omega) (by omega), if_pos (by omega), Nat.sub_zero, List.getElem?_eq_getElem ho]
  obtain ⟨x, hx, hr⟩ := hl.get o l[o] (List.getElem?_eq_getElem ho)
  exact ⟨List.all_eq_true.1 hc _ (List.getElem_mem ho), x, by simpa using hx, hr⟩
theorem RowS.load {t : Cl} {s n : Nat} {cs : Array Value} (h : RowS ι t s n cs) {p k : Nat} (hp : s ≤ p) (hk : p + k ≤ n) :
    ∃ l : List Value, l.length = k ∧ VRs ι (loadN t k p) l ∧ (∀ v ∈ loadN t k p, v.cell = true) ∧ ∀ i x, l[i]? = some x → cs[p - s + i]? = some x := by
  refine ⟨(List.range k).map fun i => (cs[p - s + i]?).getD default, by simp, ?_, ?_, ?_⟩
  · rw [loadN_eq]
    refine VRs.of_get (by simp) fun i v x hv hx => ?_
    rw [List.getElem?_map] at hv hx
    simp only [Option.map_eq_some_iff] at hv hx
    obtain ⟨j, hj, rfl⟩ := hv
    obtain ⟨j', hj', rfl⟩ := hx
    rw [hj] at hj'; cases hj'
    have hlt : j < k := by
      have := List.getElem?_eq_some_iff.1 hj
      obtain ⟨h1, h2⟩ := this
      simp at h1 h2; omega
    obtain ⟨_, x, hx, hr⟩ := h (p + j) (by omega) (by omega)
    have e : p + j - s = p - s + j := by omega
    rw [e] at hx; rw [hx]; exact hr
  · intro v hv
    rw [loadN_eq] at hv
    simp only [List.mem_map, List.mem_range] at hv
    obtain ⟨i, hi, rfl⟩ := hv
    exact (h (p + i) (by omega) (by omega)).1
  · intro i x hx
    rw [List.getElem?_map] at hx
    simp only [Option.map_eq_some_iff] at hx
    obtain ⟨j, hj, rfl⟩ := hx
    obtain ⟨h1, h2⟩ := List.getElem?_eq_some_iff.1 hj
    simp at h1 h2
    subst h2
    obtain ⟨_, x, hx, _⟩ := h (p + i) (by omega) (by omega)
    have e : p + i - s = p - s + i := by omega
    rw [e] at hx; rw [hx]; rfl
/-! ### Parts -/
theorem fill_fold (off : Nat) : ∀ (l : List Value) (k : Nat) (cells : Array Value), (l.zipIdx k).foldl (fun cs (c, j) => cs.setIfInBounds (off + j) c) cells = writeL cells (off + k) l
  | [], _, _ => rfl
  | v :: l, k, cells => by
    rw [List.zipIdx_cons, List.foldl_cons, fill_fold off l (k + 1)]
    rfl
theorem fill_cons (place : Nat → Option (Nat × Nat)) (cells : Array Value) (i : Nat) (v : Value) (rest : List (Nat × Value)) {off size : Nat} (hp : place i = some (off, size)) (hs : v.cells.size = size) (ho : off + size ≤ cells.size) :
    Instr.fill place cells ((i, v) :: rest) = Instr.fill place (writeL cells off v.cells.toList) rest := by
  rw [Instr.fill, hp]
  simp only [hs]
  rw [if_neg (by simp; omega), ← Array.foldl_toList, Array.toList_zipIdx, fill_fold]
  rfl
theorem cells_ok {v : AV} {x : Value} (h : VR ι v x) {β : Type} {d : β} {k : List AV → β} {r : β} (hk : cellsK v d k = r) (hd : d ≠ r) : ∃ l, k l = r ∧ VRs ι l x.cells.toList ∧ (v.cell = true ∨ ∃ cs, v = .agg cs) ∧ l.all AV.cell = true := by
  rw [cellsK_eq] at hk
  split at hk
  · exact absurd hk hd
  · exact absurd hk hd
  · obtain ⟨a, rfl, ha, hc⟩ := h.agg_inv
    exact ⟨_, hk, ha, .inr ⟨_, rfl⟩, List.all_eq_true.2 hc⟩
  · rename_i h1 h2 h3
    have hc : v.cell = true := by cases v <;> first | rfl | exact absurd rfl h1 | exact absurd rfl (h2 _) | exact absurd rfl (h3 _)
    refine ⟨_, hk, ?_, .inl hc, by simp [hc]⟩
    have e : x.cells.toList = [x] := by
      have := h.cellV hc
      cases x <;> first | rfl | (simp [cellV] at this)
    rw [e]; exact .cons _ _ _ _ h .nil
theorem fillP_ok {n : Nat} {placeA placeC : Nat → Option (Nat × Nat)} (hpl : ∀ i q, placeA i = some q → placeC i = some q) {tm : Tm} {ρ : Operand → Value} (hn : n ≤ 4096) :
    ∀ (l : List (Nat × Operand)) (t t' : Cl) (cells : Array Value), (∀ p ∈ l, VR ι (opd p.2 tm) (ρ p.2)) → RowS ι t 0 n cells → cells.size = n → fillP n placeA tm l t = some t' →
      ∃ cells', Instr.fill placeC cells (l.map fun p => (p.1, ρ p.2)) = some cells' ∧ cells'.size = n ∧ RowS ι t' 0 n cells'
  | [], t, t', cells, _, hr, hs, h => by cases h; exact ⟨cells, rfl, hs, hr⟩
  | p :: l, t, t', cells, hO, hr, hs, h => by
    change oEl (placeA p.1) none (fun q => cellsK (opd p.2 tm) none fun cs => bEl (Nat.beq (len cs) q.2) (bEl (Nat.ble (Nat.add q.1 q.2) n) (storeL none cs q.1 t (fillP n placeA tm l)) none) none) = some t' at h
    rw [oEl_eq] at h
    split at h
    · cases h
    · rename_i q hq
      obtain ⟨cs, h, hcs, _, hcell⟩ := cells_ok (hO p (List.mem_cons_self ..)) h (by simp)
      rw [bEl_eq, len_eq] at h
      split at h
      · rename_i h1
        have h1 : cs.length = q.2 := Nat.eq_of_beq_eq_true h1
        rw [bEl_eq] at h
        split at h
        · rename_i h2
          have h2 : q.1 + q.2 ≤ n := Nat.le_of_ble_eq_true h2
          rw [storeL_eq, if_pos hcell] at h
          have hlen := hcs.length
          have hr' := RowS.write hr hcs hcell (p := q.1) (Nat.zero_le _) (by omega) hn (by omega) (n' := n) (by omega) (by omega)
          rw [Nat.sub_zero] at hr'
          obtain ⟨cells', hf, hs', hr2⟩ := fillP_ok hpl hn l _ t' _ (fun x hx => hO x (List.mem_cons_of_mem _ hx)) hr' (by rw [writeL_size]; exact hs) h
          refine ⟨cells', ?_, hs', hr2⟩
          rw [List.map_cons, fill_cons placeC cells p.1 (ρ p.2) _ (hpl _ _ hq) (by rw [← Array.length_toList, ← hlen, h1]) (by omega)]
          exact hf
        · cases h
      · cases h
theorem places_ok : ∀ (fs : List Field), (fs.all fun f => (oEl (P.info? f.type) false fun _ => true)) = true →
    ∃ places, fs.mapM (fun f => (P.info? f.type).map fun i => (f.offset, i.size)) = some places ∧ ∀ (i : Nat) (f : Field) (inf : TypeInfo), fs[i]? = some f → P.info? f.type = some inf → places[i]? = some (f.offset, inf.size)
  | [], _ => ⟨[], rfl, by simp⟩
  | f :: fs, h => by
    simp only [List.all_cons, Bool.and_eq_true] at h
    obtain ⟨pl, hp, hpl⟩ := places_ok fs h.2
    have h1 := h.1
    rw [oEl_eq] at h1
    split at h1
    · cases h1
    · rename_i inf hi
      refine ⟨(f.offset, inf.size) :: pl, by simp [List.mapM_cons, hi, hp], fun i g inf' hg hi' => ?_⟩
      cases i with
      | zero => simp at hg; subst hg; rw [hi] at hi'; cases hi'; rfl
      | succ i => simpa using hpl i g inf' (by simpa using hg) hi'
theorem zeroO_inv {t : TypeId} {z : AV} (h : zeroO P t = some z) : ∃ i v, P.info? t = some i ∧ i.zero = some v ∧ z = ofValue v := by
  simp only [zeroO, oEl_eq] at h
  split at h
  · cases h
  · rename_i i hi
    split at h
    · cases h
    · rename_i v hv
      cases h; exact ⟨i, v, hi, hv, rfl⟩
theorem RowS.list {t : Cl} {n : Nat} {cs : Array Value} (h : RowS ι t 0 n cs) (hs : cs.size = n) : VRs ι (loadN t n 0) cs.toList ∧ ∀ v ∈ loadN t n 0, v.cell = true := by
  obtain ⟨l, h1, h2, h3, h4⟩ := h.load (Nat.le_refl 0) (k := n) (by omega)
  refine ⟨?_, h3⟩
  have : l = cs.toList := by
    apply List.ext_getElem? 
    intro i
    by_cases hi : i < l.length
    · rw [List.getElem?_eq_getElem hi]
      have := h4 i l[i] (List.getElem?_eq_getElem hi)
      rw [Nat.sub_zero, Nat.zero_add] at this
      rw [Array.getElem?_toList, this]
    · rw [List.getElem?_eq_none (by omega), List.getElem?_eq_none (by simp; omega)]
  rw [← this]; exact h2
theorem q_build {ty : TypeId} {parts : Array (Nat × Operand)} (h : o.op = .build ty parts) : Q0R P o (qBuild P ty parts) := by
  intro ι t ρ hO v hv
  have hO' : ∀ p ∈ parts.toList, VR ι (opd p.2 t) (ρ p.2) := fun p hp => hO p.2 (by
    have e : opnds o.op = mapL Prod.snd parts.toList := by rw [h]; rfl
    rw [e, mapL_eq]; exact List.mem_map_of_mem hp)
  simp only [qBuild, oEl_eq] at hv
  split at hv
  · cases hv
  rename_i z hz
  obtain ⟨inf, zv, hinf, hzv, rfl⟩ := zeroO_inv hz
  have hzr := ofValue_ok (ι := ι) zv
  simp only [onAgg_eq] at hv
  split at hv
  · rename_i zs e
    rw [e] at hzr
    obtain ⟨za, ez, hza, hzc⟩ := hzr.agg_inv
    rw [bEl_eq] at hv
    split at hv
    · rename_i hi
      rw [bEl_eq, len_eq] at hv
      split at hv
      · rename_i hle
        have hle : zs.length ≤ 4096 := Nat.le_of_ble_eq_true hle
        rw [rowOf_eq, if_pos (List.all_eq_true.2 hzc)] at hv
        split at hv
        · cases hv
        · rename_i c hc
          cases hv
          have hrow := RowS.new hza (List.all_eq_true.2 hzc) hle
          have hsz : za.toList.toArray.size = zs.length := by have := hza.length; simp at this ⊢; omega
          obtain ⟨d, hd⟩ : ∃ d, P.underlying ty = some d := by
            cases hd : P.underlying ty with
            | none => rw [hd] at hi; cases hi
            | some d => exact ⟨d, rfl⟩
          have hfin : ∃ cells', P.built ty (parts.map fun (i, x) => (i, ρ x)).toList = some cells' ∧ cells'.size = zs.length ∧ RowS ι c 0 zs.length cells' := by
            rw [hd] at hi hc
            cases d <;> try (cases hi; done)
            case array n el =>
              cases hel : P.info? el with
              | none => simp only [infosB, oEl_eq, hel] at hi; cases hi
              | some iel =>
                obtain ⟨cells', h1, h2, h3⟩ := fillP_ok (placeC := fun i => some (i * iel.size, iel.size)) (fun i q hq => by
                  simp only [placeD, sizeK, oEl_eq, hel] at hq; exact hq) hle parts.toList _ c _ hO' hrow hsz hc
                refine ⟨cells', ?_, h2, h3⟩
                simp only [Program.built, hinf, hd, hzv, hel, ez, Value.cells]
                rw [Array.toList_map]
                simpa using h1
            case struct fs =>
              rw [infosB, allL_eq] at hi
              obtain ⟨pl, hp, hpl⟩ := places_ok fs.toList hi
              obtain ⟨cells', h1, h2, h3⟩ := fillP_ok (placeC := fun i => pl.toArray[i]?) (fun i q hq => by
                  simp only [placeD, sizeK, oEl_eq] at hq
                  split at hq
                  · cases hq
                  · rename_i f hf
                    split at hq
                    · cases hq
                    · rename_i fi hfi
                      cases hq
                      simpa using hpl i f fi (by simpa using hf) hfi) hle parts.toList _ c _ hO' hrow hsz hc
              refine ⟨cells', ?_, h2, h3⟩
              simp only [Program.built, hinf, hd, hzv, hp, ez, Value.cells]
              rw [Array.toList_map]
              simpa using h1
          obtain ⟨cells', h1, h2, h3⟩ := hfin
          obtain ⟨h4, h5⟩ := h3.list h2
          refine ⟨.agg cells', .agg _ _ h4 h5, fun w => ?_⟩
          simp [execOp, h, run_build w ty _ cells' h1]
      · cases hv
    · cases hv
  · cases hv
end Go.Abs
namespace Go.Abs
variable {P : Program} {ι : Inj} {o : Oper}
/-! ### Builtins -/
theorem opnds_call {c : Call} {b : Builtin} (h : o.op = .call c) (hb : c.callee = .builtin b) : opnds o.op = c.args.toList := by rw [h]; show callL c = _; rw [callL, hb]
theorem run_blt {c : Call} {b : Builtin} (h : o.op = .call c) (hb : c.callee = .builtin b) (ρ : Operand → Value) :
    ∃ cs : Array Bool, ∀ w, (execOp ρ o).run P w = (builtin b c.argTypes o.type cs (c.args.map ρ)).run P w := by
  refine ⟨c.args.map fun | .const _ => true | _ => false, fun w => ?_⟩
  simp only [execOp, h, resolve, hb, pure_bind, invoke]
  rfl
theorem args1 {c : Call} {x : Operand} {ρ : Operand → Value} (h : c.args.toList = [x]) : c.args.map ρ = #[ρ x] := by
  have : c.args = #[x] := by apply Array.toList_inj.1; simpa using h
  rw [this]; simp
theorem args2 {c : Call} {x y : Operand} {ρ : Operand → Value} (h : c.args.toList = [x, y]) : c.args.map ρ = #[ρ x, ρ y] := by
  have : c.args = #[x, y] := by apply Array.toList_inj.1; simpa using h
  rw [this]; simp
theorem q_len {c : Call} {ty : TypeId} {x : Operand} (h : o.op = .call c) (hb : c.callee = .builtin .len) (ht : c.argTypes[0]? = some ty) (ha : c.args.toList = [x]) : Q0R P o (qLen P ty x) := by
  intro ι t ρ hO v hv
  have hx := hO x (by rw [opnds_call h hb, ha]; exact List.mem_singleton.2 rfl)
  obtain ⟨cs, hrun⟩ := run_blt (P := P) h hb ρ
  rw [args1 ha] at hrun
  simp only [qLen] at hv
  unfold lenD at hv
  split at hv
  · rename_i hd
    simp only [onStr_eq] at hv
    split at hv
    · rename_i l e
      rw [e] at hx
      obtain ⟨s, ex, hs⟩ := hx.str_inv
      cases hv
      refine ⟨_, .int _ _, fun w => ?_⟩
      rw [hrun]
      simp [builtin, Builtin.len_, ht, run_underlying hd, ex, goInt, len_eq, ← hs, bytes_length]
    · cases hv
  · rename_i n el hd
    cases hv
    refine ⟨_, .int _ _, fun w => ?_⟩
    rw [hrun]
    simp [builtin, Builtin.len_, ht, run_underlying hd, goInt]
  · rename_i a hd
    rw [oEl_eq] at hv
    split at hv
    · cases hv
    · rename_i q hq
      cases hv
      have ha' := arrD_inv hq
      refine ⟨_, .int _ _, fun w => ?_⟩
      rw [hrun]
      simp [builtin, Builtin.len_, ht, run_underlying hd, run_underlying ha', goInt]
  · rename_i el hd
    simp only [onSlice_eq, onNilSlice_eq] at hv
    split at hv
    · rename_i b p l k e
      rw [e] at hx
      obtain ⟨m, a, cap, hm, hc, hl, haa, ex⟩ := hx.slice_inv
      cases hv
      refine ⟨_, .int _ _, fun w => ?_⟩
      rw [hrun]
      simp [builtin, Builtin.len_, ht, run_underlying hd, ex, goInt]
    · split at hv
      · rename_i e
        rw [e] at hx
        have ex := hx.nilSlice_inv
        cases hv
        refine ⟨_, .int _ _, fun w => ?_⟩
        rw [hrun]
        simp [builtin, Builtin.len_, ht, run_underlying hd, ex, goInt]
      · cases hv
  · cases hv
theorem q_cap {c : Call} {ty : TypeId} {x : Operand} (h : o.op = .call c) (hb : c.callee = .builtin .cap) (ht : c.argTypes[0]? = some ty) (ha : c.args.toList = [x]) : Q0R P o (qCap P ty x) := by
  intro ι t ρ hO v hv
  have hx := hO x (by rw [opnds_call h hb, ha]; exact List.mem_singleton.2 rfl)
  obtain ⟨cs, hrun⟩ := run_blt (P := P) h hb ρ
  rw [args1 ha] at hrun
  simp only [qCap, bEl_eq] at hv
  split at hv
  · rename_i hd
    obtain ⟨el, hd⟩ : ∃ el, P.underlying ty = some (.slice el) := by
      unfold sliceD at hd; split at hd
      · exact ⟨_, by assumption⟩
      · cases hd
    simp only [onSlice_eq, onNilSlice_eq] at hv
    split at hv
    · rename_i b p l k e
      rw [e] at hx
      obtain ⟨m, a, cap, hm, hc, hl, haa, ex⟩ := hx.slice_inv
      rw [Cp.el_eq] at hv
      split at hv
      · cases hv
        cases hc
        refine ⟨_, .int _ _, fun w => ?_⟩
        rw [hrun]
        simp [builtin, Builtin.cap_, ht, run_underlying hd, ex, goInt]
      · cases hv
        refine ⟨_, .undef (.int .i64 cap) rfl, fun w => ?_⟩
        rw [hrun]
        simp [builtin, Builtin.cap_, ht, run_underlying hd, ex, goInt]
    · split at hv
      · rename_i e
        rw [e] at hx
        have ex := hx.nilSlice_inv
        cases hv
        refine ⟨_, .int _ _, fun w => ?_⟩
        rw [hrun]
        simp [builtin, Builtin.cap_, ht, run_underlying hd, ex, goInt]
      · cases hv
  · cases hv
theorem q_max {c : Call} {x y : Operand} (h : o.op = .call c) (hb : c.callee = .builtin .max) (ha : c.args.toList = [x, y]) : Q0R P o (qMost ilt x y) := by
  intro ι t ρ hO v hv
  have hx := hO x (by rw [opnds_call h hb, ha]; exact List.mem_cons_self ..)
  have hy := hO y (by rw [opnds_call h hb, ha]; exact List.mem_cons_of_mem _ (List.mem_cons_self ..))
  obtain ⟨cs, hrun⟩ := run_blt (P := P) h hb ρ
  rw [args2 ha] at hrun
  simp only [qMost, onInt_eq] at hv
  split at hv
  · rename_i k a e
    rw [e] at hx
    have ex := hx.int_inv
    split at hv
    · rename_i j b e2
      rw [e2] at hy
      have ey := hy.int_inv
      cases hv
      refine ⟨_, .int _ _, fun w => ?_⟩
      rw [hrun]
      simp [builtin, Builtin.max_, Builtin.max2, ex, ey, bEl_eq, ilt_eq]
    · cases hv
  · cases hv
theorem q_min {c : Call} {x y : Operand} (h : o.op = .call c) (hb : c.callee = .builtin .min) (ha : c.args.toList = [x, y]) : Q0R P o (qMost igt x y) := by
  intro ι t ρ hO v hv
  have hx := hO x (by rw [opnds_call h hb, ha]; exact List.mem_cons_self ..)
  have hy := hO y (by rw [opnds_call h hb, ha]; exact List.mem_cons_of_mem _ (List.mem_cons_self ..))
  obtain ⟨cs, hrun⟩ := run_blt (P := P) h hb ρ
  rw [args2 ha] at hrun
  simp only [qMost, onInt_eq] at hv
  split at hv
  · rename_i k a e
    rw [e] at hx
    have ex := hx.int_inv
    split at hv
    · rename_i j b e2
      rw [e2] at hy
      have ey := hy.int_inv
      cases hv
      refine ⟨_, .int _ _, fun w => ?_⟩
      rw [hrun]
      simp [builtin, Builtin.min_, Builtin.min2, ex, ey, bEl_eq, igt, ilt_eq]
    · cases hv
  · cases hv
theorem q_data {c : Call} {x : Operand} (h : o.op = .call c) (hb : c.callee = .builtin .unsafeSliceData) (ha : c.args.toList = [x]) : Q0R P o (qData x) := by
  intro ι t ρ hO v hv
  have hx := hO x (by rw [opnds_call h hb, ha]; exact List.mem_singleton.2 rfl)
  obtain ⟨cs, hrun⟩ := run_blt (P := P) h hb ρ
  rw [args1 ha] at hrun
  simp only [qData, onSlice_eq, onNilSlice_eq] at hv
  split at hv
  · rename_i b p l k e
    rw [e] at hx
    obtain ⟨m, a, cap, hm, hc, hl, haa, ex⟩ := hx.slice_inv
    rw [nEl_eq, Cp.el_eq] at hv
    have hcap : v = .ptr b p ∧ cap ≠ 0 := by
      cases k with
      | ex k => cases hc; simp only at hv; split at hv <;> simp_all
      | un z => simp only at hv; split at hv <;> simp_all; omega
    obtain ⟨rfl, hcap⟩ := hcap
    obtain ⟨h1, h2⟩ := haa hcap
    refine ⟨.pointer (some ⟨m.c, p - m.s, none⟩), .ptr b p m hm h2, fun w => ?_⟩
    rw [hrun, ex]
    have e2 : (Builtin.unsafeSliceData_ c.argTypes o.type #[.slice (some a) l cap]).run P w = .ok (.pointer (some a)) w := by
      show (if cap ≠ 0 then (pure (.pointer (some a)) : Sem Value) else _).run P w = _
      rw [if_pos hcap]; rfl
    show ((Builtin.unsafeSliceData_ c.argTypes o.type #[.slice (some a) l cap]) >>= fun v => pure (Next.value v)).run P w = _
    rw [Sem.run_bind, e2, h1]; rfl
  · split at hv
    · rename_i e
      rw [e] at hx
      have ex := hx.nilSlice_inv
      cases hv
      refine ⟨_, .nilPtr, fun w => ?_⟩
      rw [hrun, ex]
      have e2 : (Builtin.unsafeSliceData_ c.argTypes o.type #[.slice none 0 0]).run P w = .ok (.pointer none) w := rfl
      show ((Builtin.unsafeSliceData_ c.argTypes o.type #[.slice none 0 0]) >>= fun v => pure (Next.value v)).run P w = _
      rw [Sem.run_bind, e2]; rfl
    · cases hv
end Go.Abs
namespace Go.Abs
variable {P : Program} {o : Oper} {gs base : Nat} {ι : Inj} {H : Hp} {nx : Nat}
theorem St.lt {hp : Array Obj} (h : St gs base ι H nx hp) {b : Nat} {m : Im} (hm : ι b = some m) : b < nx := by
  rcases Nat.lt_or_ge b nx with h1 | h1
  · exact h1
  · rw [h.fresh b h1] at hm; cases hm
theorem St.ob {hp : Array Obj} (h : St gs base ι H nx hp) {b : Nat} {m : Im} (hm : ι b = some m) {ob : Ob} (hr : row H b = ob) (hl : ob.live = true) : ObR gs ι m ob hp[m.c]? := by
  obtain ⟨m', e, r⟩ := h.obs b (h.lt hm) (by rw [hr]; exact hl)
  rw [hm] at e; cases e
  rw [hr] at r; exact r
theorem St.cells {hp : Array Obj} (h : St gs base ι H nx hp) {b : Nat} {m : Im} (hm : ι b = some m) {t : Cl} {n : Nat} {e : TypeId} {x : Bool} (hr : row H b = .cells t n e x) :
    ∃ cs fz, hp[m.c]? = some (.cells cs e fz) ∧ CellsR ι m t n x cs fz := h.ob hm hr rfl
/-- a reading operation, soundly -/
def Q1R (P : Program) (o : Oper) (q : Q1) : Prop := ∀ (gs base : Nat) (ι : Inj) (H : Hp) (nx : Nat) (w : World) (t : Tm) (ρ : Operand → Value), St gs base ι H nx w.heap →
  (∀ x ∈ opnds o.op, VR ι (opd x t) (ρ x)) → ∀ v, q t H = some v → ∃ x, VR ι v x ∧ (execOp ρ o).run P w = .ok (.value x) w
theorem CellsR.row {m : Im} {t : Cl} {n : Nat} {x : Bool} {cs : Array Value} {fz : Nat × Nat} (h : CellsR ι m t n x cs fz) : RowS ι t m.s n cs := h.cell
theorem cell_at {w : World} {c : Nat} {cs : Array Value} {e : TypeId} {fz : Nat × Nat} (h : w.heap[c]? = some (.cells cs e fz)) (i : Nat) : w.cell? ⟨c, i, none⟩ = cs[i]? := by simp [World.cell?, h]
theorem run_load_at {w : World} {a : Addr} {v : Value} (h : w.cell? a = some v) : (Go.load a).run P w = .ok v w := by simp [Go.load, Sem.run, h]
/-- a variable that is read -/
theorem readAt_ok {w : World} {m : Im} {t : Cl} {n : Nat} {x : Bool} {cs : Array Value} {fz : Nat × Nat} {e ty : TypeId} {p : Nat} {v : AV} (hh : w.heap[m.c]? = some (.cells cs e fz)) (hc : CellsR ι m t n x cs fz) (hs : m.s ≤ p)
    (h : readAt P ty t n p = some v) : ∃ y, VR ι v y ∧ (loadVar ty ⟨m.c, p - m.s, none⟩).run P w = .ok y w := by
  simp only [readAt, oEl_eq, bEl_eq, sizeK] at h
  split at h
  · cases h
  rename_i d hd
  split at h
  · rename_i hag
    split at h
    · cases h
    · rename_i inf hinf
      split at h
      · rename_i hle
        have hle : p + inf.size ≤ n := Nat.le_of_ble_eq_true hle
        cases h
        obtain ⟨l, h1, h2, h3, h4⟩ := hc.row.load hs hle
        refine ⟨.agg l.toArray, .agg _ _ (by simpa using h2) h3, ?_⟩
        have hl : (loadCells ⟨m.c, p - m.s, none⟩ inf.size).run P w = .ok l.toArray w := by
          rw [← h1]
          refine run_loadCells_list w _ l fun j y hj => ?_
          rw [addr_add, cell_at hh]; exact h4 j y hj
        simp [loadVar, isAgg_run hd, hag, run_sizeOf hinf, hl]
      · cases h
  · rename_i hag
    split at h
    · rename_i hlt
      have hlt : p < n := by simpa using hlt
      cases h
      obtain ⟨_, y, hy, hr⟩ := hc.cell p hs hlt
      refine ⟨y, hr, ?_⟩
      have hl := run_load_at (P := P) (w := w) (a := ⟨m.c, p - m.s, none⟩) (v := y) (by rw [cell_at hh]; exact hy)
      simp only [Bool.not_eq_true] at hag
      simp only [loadVar, Sem.run_bind, isAgg_run hd, hag, Result.andThen, Bool.false_eq_true, if_false, hl]
    · cases h
theorem r_load {ty : TypeId} {a : Operand} (h : o.op = .load ty a) : Q1R P o (rLoad P ty a) := by
  intro gs base ι H nx w t ρ hst hO v hv
  have ha := hO a (by rw [h]; exact mem1 rfl)
  simp only [rLoad, onPtr_eq] at hv
  split at hv
  · rename_i b p e
    rw [e] at ha
    obtain ⟨m, hm, hs, ex⟩ := ha.ptr_inv
    rw [onCellsOb_eq] at hv
    split at hv
    · rename_i c n el x hr
      obtain ⟨cs, fz, hh, hc⟩ := hst.cells hm hr
      obtain ⟨y, hy, hrun⟩ := readAt_ok hh hc hs hv
      exact ⟨y, hy, by simp [execOp, h, Instr.loadAt, ex, Instr.sureAddr, hrun]⟩
    · cases hv
  · cases hv
/-! converting -/
theorem bytesL_ok : ∀ {l : List AV} {l' : List Value} {s : List Nat}, bytesL l = some s → VRs ι l l' → ∃ bs : List UInt8, s = bs.map UInt8.toNat ∧ l' = bs.map fun b => Value.int .u8 (b.toNat : Int)
  | [], _, s, h, .nil => by cases h; exact ⟨[], rfl, rfl⟩
  | v :: l, _, s, h, .cons _ x _ l' hv ht => by
    change byteK v (fun b => bEl (Nat.blt b 256) (oEl (bytesL l) none fun l => some (b :: l)) none) = some s at h
    simp only [byteK, onInt_eq, bEl_eq, iEl_eq, oEl_eq] at h
    split at h
    · rename_i k n
      split at h
      · rename_i hk
        have := keq_eq _ _ hk; subst this
        split at h
        · rename_i m
          split at h
          · rename_i hlt
            have hlt : m < 256 := by simpa using hlt
            split at h
            · cases h
            · rename_i l2 hl2
              cases h
              obtain ⟨bs, h1, h2⟩ := bytesL_ok hl2 ht
              have := hv.int_inv; subst this
              refine ⟨UInt8.ofNat m :: bs, ?_, ?_⟩
              · rw [List.map_cons, h1]; congr 1; simp [UInt8.toNat_ofNat']; omega
              · rw [List.map_cons, h2]; congr 2; simp [UInt8.toNat_ofNat']; omega
          · cases h
        · cases h
      · cases h
    · cases h
theorem bytesAt_ok {w : World} {b p k : Nat} {m : Im} {v : AV} (hst : St gs base ι H nx w.heap) (hm : ι b = some m) (hs : m.s ≤ p) (h : bytesAt b p k H = some v) :
    ∃ (l : List Value) (bs : List UInt8), (loadCells ⟨m.c, p - m.s, none⟩ k).run P w = .ok l.toArray w ∧ v = .str (bs.map UInt8.toNat) ∧ l = bs.map fun b => Value.int .u8 (b.toNat : Int) := by
  rw [bytesAt, onCellsOb_eq] at h
  split at h
  · rename_i t n el x hr
    obtain ⟨cs, fz, hh, hc⟩ := hst.cells hm hr
    rw [bEl_eq] at h
    split at h
    · rename_i hle
      have hle : p + k ≤ n := Nat.le_of_ble_eq_true hle
      rw [oEl_eq] at h
      split at h
      · cases h
      · rename_i s hbl
        cases h
        obtain ⟨l, h1, h2, h3, h4⟩ := hc.row.load hs hle
        obtain ⟨bs, e1, e2⟩ := bytesL_ok hbl h2
        refine ⟨l, bs, ?_, by rw [e1], e2⟩
        rw [← h1]
        refine run_loadCells_list w _ l fun j y hj => ?_
        rw [addr_add, cell_at hh]; exact h4 j y hj
    · cases h
  · cases h
theorem r_convert {s d el : TypeId} {x : Operand} (h : o.op = .convert s d x) (hs : P.underlying s = some (.slice el)) (hd : P.underlying d = some .string) (he : P.underlying el = some (.int .u8)) : Q1R P o (rConvert x) := by
  intro gs base ι H nx w t ρ hst hO v hv
  have hx := hO x (by rw [h]; exact mem1 rfl)
  simp only [rConvert, cvBytes, onSlice_eq, onNilSlice_eq] at hv
  split at hv
  · rename_i b p l k e
    rw [e] at hx
    obtain ⟨m, a, cap, hm, hc, hl, haa, ex⟩ := hx.slice_inv
    by_cases hcap : cap = 0
    · obtain rfl : l = 0 := by omega
      have hv0 : v = .str [] := by
        rw [bytesAt, onCellsOb_eq] at hv
        split at hv
        · rw [bEl_eq] at hv
          split at hv
          · cases hv; rfl
          · cases hv
        · cases hv
      subst hv0
      refine ⟨.string .empty, .str _ _ rfl, ?_⟩
      have e4 := run_bytesToString (P := P) w a 0 cap [] rfl
      simp only [execOp, h, convert, Sem.run_bind, run_underlying hs, run_underlying hd, Result.andThen, ex, run_underlying he, e4, Sem.run_pure]
      rfl
    · obtain ⟨h1, h2⟩ := haa hcap
      obtain ⟨l', bs, e1, e2, e3⟩ := bytesAt_ok (P := P) hst hm h2 hv
      subst e2; subst e3
      refine ⟨.string ⟨bs.toArray⟩, .str _ _ rfl, ?_⟩
      have e4 := run_bytesToString (P := P) w a l cap (bs.map fun b => (b.toNat : Int)) (by rw [h1, e1]; simp)
      rw [foldl_push_byteCells] at e4
      have e5 : (⟨ByteArray.empty.data ++ bs.toArray⟩ : ByteArray) = ⟨bs.toArray⟩ := by
        congr 1
        show #[] ++ bs.toArray = bs.toArray
        simp
      rw [e5] at e4
      simp only [execOp, h, convert, Sem.run_bind, run_underlying hs, run_underlying hd, Result.andThen, ex, run_underlying he, e4, Sem.run_pure]
  · split at hv
    · rename_i e
      rw [e] at hx
      have ex := hx.nilSlice_inv
      cases hv
      refine ⟨.string .empty, .str _ _ rfl, ?_⟩
      simp [execOp, h, convert, run_underlying hs, run_underlying hd, ex, run_underlying he, Conv.bytesToString]
    · cases hv
theorem toUnsafe_ok {w : World} {c i : Nat} {cs : Array Value} {e : TypeId} {fz : Nat × Nat} (hh : w.heap[c]? = some (.cells cs e fz)) (hi : i < cs.size) : (Conv.seenAt ⟨c, i, none⟩).run P w = .ok ⟨c, i, none⟩ w := by
  simp [Conv.seenAt, viewAt, shape, Sem.run, World.shape?, hh]
end Go.Abs
namespace Go.Abs
variable {P : Program} {o : Oper} {gs base : Nat} {ι : Inj} {H : Hp} {nx : Nat}
theorem shape_ok {w : World} {c : Nat} {cs : Array Value} {e : TypeId} {fz : Nat × Nat} (hh : w.heap[c]? = some (.cells cs e fz)) : (shape c).run P w = .ok (some (e, cs.size)) w := by
  simp [shape, Sem.run, World.shape?, hh]
theorem cellsIn_ok {w : World} {c : Nat} {cs : Array Value} {e : TypeId} {fz : Nat × Nat} (hh : w.heap[c]? = some (.cells cs e fz)) : (cellsIn c).run P w = .ok (some cs.size) w := by
  simp only [cellsIn, Sem.run_bind, shape_ok (P := P) hh, Result.andThen]; rfl
theorem r_toUnsafe {s d e : TypeId} {x : Operand} (h : o.op = .convert s d x) (hs : P.underlying s = some (.pointer e)) (hd : P.underlying d = some .unsafePointer) : Q1R P o (rToUnsafe P e x) := by
  intro gs base ι H nx w t ρ hst hO v hv
  have hx := hO x (by rw [h]; exact mem1 rfl)
  simp only [rToUnsafe, onPtr_eq] at hv
  split at hv
  · rename_i b p e1
    rw [e1] at hx
    obtain ⟨m, hm, hsl, ex⟩ := hx.ptr_inv
    rw [onCellsOb_eq] at hv
    split at hv
    · rename_i c n el xx hr
      obtain ⟨cs, fz, hh, hc⟩ := hst.cells hm hr
      simp only [bEl_eq, sizeK, oEl_eq, nEl_eq] at hv
      split at hv
      · rename_i hlt
        have hlt : p < n := by simpa using hlt
        split at hv
        · cases hv
        · rename_i inf hinf
          split at hv
          · cases hv
          · rename_i z hz
            cases hv
            have hsz := hc.size
            have hmost := hc.most
            have hi : p - m.s < cs.size := by omega
            refine ⟨_, .ptr b p m hm hsl, ?_⟩
            have e4 : (Conv.unsafePointer s d (.pointer (some ⟨m.c, p - m.s, none⟩))).run P w = .ok (.pointer (some ⟨m.c, p - m.s, none⟩)) w := by
              have hn : ¬ (cs.size ≤ p - m.s) := by omega
              have hz' : ¬ (inf.size = 0) := by omega
              simp only [Conv.unsafePointer, Sem.run_bind, run_underlying hs, run_underlying hd, Result.andThen, toUnsafe_ok (P := P) hh hi, cellsIn_ok (P := P) hh, run_sizeOf hinf]
              simp [hn, hz']
            simp only [execOp, h, convert, Sem.run_bind, run_underlying hs, run_underlying hd, Result.andThen, ex, e4, Sem.run_pure]
      · cases hv
    · cases hv
  · cases hv
theorem depth_pos : ∃ d, P.depth = d + 1 := ⟨2 * (P.types.size + Made.depth) + 1, rfl⟩
theorem sameLayout_self (u : TypeId) : sameLayout P P.depth u u = true := by
  obtain ⟨d, hd⟩ := depth_pos (P := P)
  rw [hd, sameLayout]; simp
theorem liesAt_self {u count k n s : Nat} (hs : P.cellsOf u = s) (h0 : s ≠ 0) (hk : k % s = 0) (hn : k / s + n ≤ count) : liesAt P P.depth u count k u n = true := by
  obtain ⟨d, hd⟩ := depth_pos (P := P)
  have hsl := sameLayout_self (P := P) u
  rw [hd] at hsl ⊢
  rw [liesAt, hd, rowAt]
  simp [hs, h0, hk, hn, hsl]
theorem cellsOf_eq {u : TypeId} {i : TypeInfo} (h : P.info? u = some i) : P.cellsOf u = i.size := by simp [Program.cellsOf, h]
theorem r_ofUnsafe {s d u : TypeId} {x : Operand} (h : o.op = .convert s d x) (hs : P.underlying s = some .unsafePointer) (hd : P.underlying d = some (.pointer u)) : Q1R P o (rOfUnsafe P u x) := by
  intro gs base ι H nx w t ρ hst hO v hv
  have hx := hO x (by rw [h]; exact mem1 rfl)
  simp only [rOfUnsafe, onPtr_eq] at hv
  split at hv
  · rename_i b p e1
    rw [e1] at hx
    obtain ⟨m, hm, hsl, ex⟩ := hx.ptr_inv
    rw [onCellsOb_eq] at hv
    split at hv
    · rename_i c n el xx hr
      obtain ⟨cs, fz, hh, hc⟩ := hst.cells hm hr
      simp only [bEl_eq, sizeK, oEl_eq, nEl_eq] at hv
      split at hv
      · rename_i hxx
        subst hxx
        obtain ⟨hs0, hn0⟩ := hc.exact' rfl
        split at hv
        · rename_i hel
          obtain rfl : el = u := Nat.eq_of_beq_eq_true hel
          split at hv
          · split at hv
            · cases hv
            · rename_i inf hinf
              split at hv
              · cases hv
              · rename_i z hz
                split at hv
                · rename_i hle
                  have hle : inf.size ≤ n := Nat.le_of_ble_eq_true hle
                  cases hv
                  have hsz := hc.size
                  have hi : 0 - m.s < cs.size := by omega
                  refine ⟨_, .ptr b 0 m hm hsl, ?_⟩
                  have hz' : ¬ (inf.size = 0) := by omega
                  have hlies : liesAt P P.depth el (cs.size / P.cellsOf el) (0 - m.s) el 1 = true := by
                    rw [cellsOf_eq hinf]
                    refine liesAt_self (cellsOf_eq hinf) hz' (by rw [hs0]; simp) ?_
                    rw [hs0]; simp
                    exact Nat.div_pos (by omega) (by omega)
                  have e4 : (Conv.unsafePointer s d (.pointer (some ⟨m.c, 0 - m.s, none⟩))).run P w = .ok (.pointer (some ⟨m.c, 0 - m.s, none⟩)) w := by
                    have hvar : (variablesAt ⟨m.c, 0 - m.s, none⟩ el 1).run P w = .ok true w := by
                      simp only [variablesAt, Sem.run_bind, run_program, shape_ok (P := P) hh, Result.andThen, hlies, Sem.run_pure]
                    simp only [Conv.unsafePointer, Sem.run_bind, run_underlying hs, run_underlying hd, Result.andThen, toUnsafe_ok (P := P) hh hi, run_sizeOf hinf, hvar]
                    simp
                  simp only [execOp, h, convert, Sem.run_bind, run_underlying hs, run_underlying hd, Result.andThen, ex, e4, Sem.run_pure]
                · cases hv
          · cases hv
        · split at hv
          · cases hv
          · rename_i inf hinf
            split at hv
            · cases hv
            · rename_i z hz
              split at hv
              · rename_i hlt
                have hlt : p < n := by simpa using hlt
                split at hv
                · rename_i hlies0
                  cases hv
                  have hsz := hc.size
                  have hi : p - m.s < cs.size := by omega
                  refine ⟨_, .ptr b p m hm hsl, ?_⟩
                  have hz' : ¬ (inf.size = 0) := by omega
                  have hlies : liesAt P P.depth el (cs.size / P.cellsOf el) (p - m.s) u 1 = true := by
                    have e1 : cs.size = n := by omega
                    have e2 : p - m.s = p := by omega
                    rw [e1, e2]; exact hlies0
                  have e4 : (Conv.unsafePointer s d (.pointer (some ⟨m.c, p - m.s, none⟩))).run P w = .ok (.pointer (some ⟨m.c, p - m.s, none⟩)) w := by
                    have hvar : (variablesAt ⟨m.c, p - m.s, none⟩ u 1).run P w = .ok true w := by
                      simp only [variablesAt, Sem.run_bind, run_program, shape_ok (P := P) hh, Result.andThen, hlies, Sem.run_pure]
                    simp only [Conv.unsafePointer, Sem.run_bind, run_underlying hs, run_underlying hd, Result.andThen, toUnsafe_ok (P := P) hh hi, run_sizeOf hinf, hvar]
                    simp
                  simp only [execOp, h, convert, Sem.run_bind, run_underlying hs, run_underlying hd, Result.andThen, ex, e4, Sem.run_pure]
                · cases hv
              · cases hv
      · cases hv
    · cases hv
  · cases hv
/-! ### Maps -/
theorem same_ok {kt : TypeId} {d : TypeDesc} (hd : P.underlying kt = some d) {j k : AV} {b : Bool} {x y : Value} (h : keyEqD (P.underlying kt) j k = some b) (hx : VR ι j x) (hy : VR ι k y) :
    Instr.sameNow d x y = some b ∧ (b = true → ∀ n, Instr.sameBits n y x = true) := by
  rw [hd] at h
  cases d with
  | int kd =>
    change onInt j none (fun ka a => onInt k none fun kb b => bEl (keq ka kb) (some (ieq a b)) none) = some b at h
    simp only [onInt_eq] at h
    split at h
    · have := hx.int_inv; subst this
      split at h
      · have := hy.int_inv; subst this
        rw [bEl_eq] at h
        split at h
        · rename_i hk
          have := keq_eq _ _ hk; subst this
          cases h
          refine ⟨by simp [Instr.sameNow, ieq_eq], fun hb n => ?_⟩
          rw [ieq_eq, beq_iff_eq] at hb
          subst hb
          cases n <;> simp [Instr.sameBits]
        · cases h
      · cases h
    · cases h
  | string =>
    change onStr j none (fun a => onStr k none fun b => some (leq a b)) = some b at h
    simp only [onStr_eq] at h
    split at h
    · obtain ⟨s1, rfl, e1⟩ := hx.str_inv
      split at h
      · obtain ⟨s2, rfl, e2⟩ := hy.str_inv
        cases h
        have e : (s1 == s2) = leq (bytesOf s1) (bytesOf s2) := by
          rw [leq_eq, beq_toListBytes, ByteArray.toList_eq, ByteArray.toList_eq, Bool.eq_iff_iff, beq_iff_eq, beq_iff_eq]
          exact (List.map_inj_right fun a b hh => UInt8.toNat_inj.1 hh).symm
        rw [← e1, ← e2, ← e]
        refine ⟨by simp [Instr.sameNow], fun hb n => ?_⟩
        have : s1 = s2 := by
          rw [beq_toListBytes, ByteArray.toList_eq, ByteArray.toList_eq, beq_iff_eq] at hb
          apply ByteArray.ext
          exact Array.toList_inj.1 hb
        subst this
        cases n <;> simpa [Instr.sameBits] using hb
      · cases h
    · cases h
  | _ => cases h
theorem find_ok {kt : TypeId} {d : TypeDesc} (hd : P.underlying kt = some d) {j : AV} {x : Value} (hx : VR ι j x) : ∀ {es : List (AV × AV)} {l : List MapEntry} (i : Nat) (r : Option AV), ERs ι es l → findM (keyEqD (P.underlying kt)) j es = some r →
    (r = none ∧ Instr.findNow d x l i = some none) ∨ ∃ v y n, r = some v ∧ VR ι v y ∧ Instr.findNow d x l i = some (some (n, y))
  | _, _, i, r, .nil, h => by cases h; exact .inl ⟨rfl, rfl⟩
  | _, _, i, r, .cons p e l l' hk hv ht, h => by
    change oEl (keyEqD (P.underlying kt) j p.1) none (fun b => bEl b (some (some p.2)) (findM (keyEqD (P.underlying kt)) j l)) = some r at h
    rw [oEl_eq] at h
    split at h
    · cases h
    · rename_i b hb
      obtain ⟨h1, _⟩ := same_ok hd hb hx hk
      rw [bEl_eq] at h
      split at h
      · rename_i hbt
        subst hbt
        cases h
        exact .inr ⟨p.2, e.val, i, rfl, hv, by simp [Instr.findNow, h1]⟩
      · rename_i hbt
        simp only [Bool.not_eq_true] at hbt
        subst hbt
        simpa [Instr.findNow, h1] using find_ok hd hx (i + 1) r ht h
theorem findU_spec {eq : AV → AV → Option Bool} {k : AV} : ∀ {es : List (AV × AV)} {r : Option AV}, findU eq k es = some r → (∀ e ∈ es, ∃ b, eq k e.1 = some b) ∧ ((r = none ∧ ∀ e ∈ es, eq k e.1 = some false) ∨ ∃ v, r = some v ∧ (∃ e ∈ es, eq k e.1 = some true) ∧ ∀ e ∈ es, eq k e.1 = some true → e.2 = v)
  | [], r, h => by cases h; exact ⟨by simp, .inl ⟨rfl, by simp⟩⟩
  | e :: es, r, h => by
    change oEl (eq k e.1) none (fun b => oEl (findU eq k es) none fun r => bEl b (oEl r (some (some e.2)) fun _ => none) (some r)) = some r at h
    rw [oEl_eq] at h
    split at h
    · cases h
    rename_i b hb
    rw [oEl_eq] at h
    split at h
    · cases h
    rename_i r1 hr1
    obtain ⟨h1, h2⟩ := findU_spec hr1
    have all : ∀ x ∈ e :: es, ∃ b, eq k x.1 = some b := fun x hx => by
      rcases List.mem_cons.1 hx with rfl | hx
      · exact ⟨b, hb⟩
      · exact h1 x hx
    refine ⟨all, ?_⟩
    rw [bEl_eq] at h
    split at h
    · rename_i hbt
      subst hbt
      rw [oEl_eq] at h
      split at h
      · cases h
        refine .inr ⟨e.2, rfl, ⟨e, List.mem_cons_self .., hb⟩, fun x hx hxt => ?_⟩
        rcases List.mem_cons.1 hx with rfl | hx
        · rfl
        · rcases h2 with ⟨_, h2⟩ | ⟨v, h3, _⟩
          · rw [h2 x hx] at hxt; cases hxt
          · cases h3
      · cases h
    · rename_i hbt
      simp only [Bool.not_eq_true] at hbt
      subst hbt
      cases h
      rcases h2 with ⟨rfl, h2⟩ | ⟨v, rfl, ⟨x, hx, hxt⟩, h4⟩
      · refine .inl ⟨rfl, fun x hx => ?_⟩
        rcases List.mem_cons.1 hx with rfl | hx
        · exact hb
        · exact h2 x hx
      · refine .inr ⟨v, rfl, ⟨x, List.mem_cons_of_mem _ hx, hxt⟩, fun y hy hyt => ?_⟩
        rcases List.mem_cons.1 hy with rfl | hy
        · rw [hb] at hyt; cases hyt
        · exact h4 y hy hyt
theorem findM_of {eq : AV → AV → Option Bool} {k : AV} {v : AV} : ∀ {l : List (AV × AV)}, (∀ e ∈ l, ∃ b, eq k e.1 = some b) → (∀ e ∈ l, eq k e.1 = some true → e.2 = v) → findM eq k l = some (if ∃ e ∈ l, eq k e.1 = some true then some v else none)
  | [], _, _ => by simp [findM]
  | e :: l, h1, h2 => by
    obtain ⟨b, hb⟩ := h1 e (List.mem_cons_self ..)
    have ih := findM_of (l := l) (fun x hx => h1 x (List.mem_cons_of_mem _ hx)) fun x hx => h2 x (List.mem_cons_of_mem _ hx)
    show oEl (eq k e.1) none (fun b => bEl b (some (some e.2)) (findM eq k l)) = _
    rw [hb]
    cases b with
    | true =>
      have := h2 e (List.mem_cons_self ..) hb
      rw [if_pos ⟨e, List.mem_cons_self .., hb⟩, ← this]; rfl
    | false =>
      show findM eq k l = _
      rw [ih]
      congr 1
      by_cases hx : ∃ e ∈ l, eq k e.1 = some true
      · obtain ⟨x, hx, hxt⟩ := hx
        rw [if_pos ⟨x, hx, hxt⟩, if_pos ⟨x, List.mem_cons_of_mem _ hx, hxt⟩]
      · rw [if_neg hx, if_neg]
        rintro ⟨x, hx', hxt⟩
        rcases List.mem_cons.1 hx' with rfl | hx'
        · rw [hb] at hxt; cases hxt
        · exact hx ⟨x, hx', hxt⟩
/-- in whatever order the entries are -/
theorem findU_ok {eq : AV → AV → Option Bool} {k : AV} {es l : List (AV × AV)} {r : Option AV} (h : findU eq k es = some r) (hm : ∀ p, p ∈ l ↔ p ∈ es) : findM eq k l = some r := by
  obtain ⟨h1, h2⟩ := findU_spec h
  have hd : ∀ e ∈ l, ∃ b, eq k e.1 = some b := fun e he => h1 e ((hm e).1 he)
  rcases h2 with ⟨rfl, h2⟩ | ⟨v, rfl, ⟨x, hx, hxt⟩, h3⟩
  · rw [findM_of (v := .any) hd (fun e he ht => (by rw [h2 e ((hm e).1 he)] at ht; cases ht)), if_neg]
    rintro ⟨e, he, ht⟩
    rw [h2 e ((hm e).1 he)] at ht; cases ht
  · rw [findM_of (v := v) hd fun e he ht => h3 e ((hm e).1 he) ht, if_pos ⟨x, (hm x).2 hx, hxt⟩]
theorem checkKey_ok {kt : TypeId} {d : TypeDesc} (hd : P.underlying kt = some d) (hk : keyD (some d) = true) (em : Bool) (n : Nat) (x : Value) (w : World) : (Instr.checkKey em (n + 1) kt x).run P w = .ok () w := by
  simp only [Instr.checkKey, Sem.run_bind, run_underlying hd, Result.andThen]
  unfold keyD at hk
  split at hk
  · rename_i e; cases e; rfl
  · rename_i e; cases e; rfl
  · cases hk
theorem mapD_inv {d : Option TypeDesc} {q : TypeId × TypeId} (h : mapD d = some q) : d = some (.map q.1 q.2) := by
  unfold mapD at h; split at h
  · cases h; rfl
  · cases h
theorem pair_ok {ok b : Bool} {v : AV} {y : Value} (h : VR ι v y) : VR ι (pairO ok v b) (if ok then .tuple #[y, .bool b] else y) := by
  cases ok
  · exact h
  · exact .tuple _ _ (.cons _ _ _ _ h (.cons _ _ _ _ (.bool b) .nil))
theorem getObj_ok {w : World} {c : Nat} {ob : Obj} (hh : w.heap[c]? = some ob) (hn : ∀ a b d, ob ≠ .cells a b d) : (getObj c).run P w = .ok ob w := by
  simp only [getObj, Sem.run, hh]
  try (cases ob <;> first | rfl | exact absurd rfl (hn _ _ _))
theorem r_lookup {ty : TypeId} {mp k : Operand} {ok : Bool} (h : o.op = .lookup ty mp k ok) : Q1R P o (rLookup P ty mp k ok) := by
  intro gs base ι H nx w t ρ hst hO v hv
  have hm := hO mp (by rw [h]; exact mem1 rfl)
  have hk := hO k (by rw [h]; exact mem2 rfl)
  simp only [rLookup, mapK] at hv
  rw [oEl_eq] at hv
  split at hv
  · cases hv
  rename_i q hq
  have hty := mapD_inv hq
  rw [bEl_eq] at hv
  split at hv
  · rename_i hkd
    cases hkt : P.underlying q.1 with
    | none => rw [hkt] at hkd; cases hkd
    | some d =>
      have key : ∀ (es : List (AV × AV)) (ents : Array MapEntry), ERs ι es ents.toList → oEl (findM (keyEqD (P.underlying q.1)) (opd k t) es) none (fun r => oEl r (oEl (zeroO P q.2) none fun z => some (pairO ok z false)) fun v => some (pairO ok v true)) = some v →
          ∃ x y b, VR ι v (if ok then .tuple #[x, .bool b] else x) ∧ y = (x, b) ∧ (do match ← Instr.findKey q.1 (ρ k) ents.toList with
            | some (_, v) => pure (v, true)
            | none => pure (← zeroValue q.2, false) : Sem (Value × Bool)).run P w = .ok y w := by
        intro es ents hes hv
        rw [oEl_eq] at hv
        split at hv
        · cases hv
        · rename_i r hr
          rcases find_ok hkt hk 0 r hes hr with ⟨rfl, hf⟩ | ⟨v', y, n, rfl, hvy, hf⟩
          · change oEl (zeroO P q.2) none (fun z => some (pairO ok z false)) = some v at hv
            rw [oEl_eq] at hv
            split at hv
            · cases hv
            · rename_i z hz
              cases hv
              obtain ⟨inf, zv, hinf, hzv, rfl⟩ := zeroO_inv hz
              refine ⟨zv, _, false, pair_ok (ofValue_ok zv), rfl, ?_⟩
              simp [Instr.findKey, run_underlying hkt, hf, run_zeroValue hinf hzv]
          · cases hv
            refine ⟨y, _, true, pair_ok hvy, rfl, ?_⟩
            simp [Instr.findKey, run_underlying hkt, hf]
      rw [hkt] at hkd
      have there : ∀ (es : List (AV × AV)) (ents : Array MapEntry) (n c : Nat), ρ mp = .map (some c) → w.heap[c]? = some (.map ents n) → ERs ι es ents.toList → foundK P q.2 ok (findM (keyEqD (P.underlying q.1)) (opd k t) es) = some v → ∃ x, VR ι v x ∧ (execOp ρ o).run P w = .ok (.value x) w := by
          intro es ents n c ex hh hes hv
          obtain ⟨x, y, bb, h1, rfl, h2⟩ := key es ents hes hv
          refine ⟨_, h1, ?_⟩
          have e1 : (Instr.lookup ty (ρ mp) (ρ k) ok).run P w = .ok (if ok then .tuple #[x, .bool bb] else x) w := by
            unfold Instr.lookup
            simp only [Sem.run_bind, run_underlying hty, Result.andThen, ex, getObj_ok hh (fun _ _ _ => by simp), Sem.run_pure, checkKey_ok hkt hkd ents.isEmpty 9999 (ρ k) w] at h2 ⊢
            generalize (Instr.findKey q.1 (ρ k) ents.toList).run P w = r at h2 ⊢
            cases r with
            | halt => cases h2
            | ok a w1 =>
              cases a with
              | none =>
                simp only [Sem.run_bind] at h2 ⊢
                generalize (zeroValue q.2).run P w1 = r2 at h2 ⊢
                cases r2 with
                | halt => cases h2
                | ok z w2 =>
                  simp only [Result.andThen, Sem.run_pure, Result.ok.injEq, Prod.mk.injEq] at h2 ⊢
                  obtain ⟨⟨rfl, rfl⟩, rfl⟩ := h2
                  simp
              | some p =>
                simp only [Sem.run_bind, Result.andThen, Sem.run_pure, Result.ok.injEq, Prod.mk.injEq] at h2 ⊢
                obtain ⟨⟨rfl, rfl⟩, rfl⟩ := h2
                simp
          simp only [execOp, h, Sem.run_bind, e1, Result.andThen, Sem.run_pure]
      simp only [onMap_eq, onNilMap_eq] at hv
      split at hv
      · rename_i b e
        rw [e] at hm
        obtain ⟨m, hmi, ex⟩ := hm.map_inv
        rw [onMapOb_eq] at hv
        split at hv
        · rename_i es hr
          obtain ⟨ents, hh, hes⟩ := hst.ob hmi hr rfl
          exact there es ents _ m.c ex hh hes.rel hv
        · rw [onUmapOb_eq] at hv
          split at hv
          · rename_i es hr
            obtain ⟨ents, n, hh, l, h1, h2⟩ := hst.ob hmi hr rfl
            cases hf : findU (keyEqD (P.underlying q.1)) (opd k t) es with
            | none => rw [hf] at hv; cases hv
            | some r =>
              rw [hf] at hv
              exact there l ents n m.c ex hh h1 (by rw [findU_ok hf h2]; exact hv)
          · cases hv
      · split at hv
        · rename_i e
          rw [e] at hm
          have ex := hm.nilMap_inv
          obtain ⟨x, y, bb, h1, rfl, h2⟩ := key [] #[] .nil hv
          refine ⟨_, h1, ?_⟩
          have e1 : (Instr.lookup ty (ρ mp) (ρ k) ok).run P w = .ok (if ok then .tuple #[x, .bool bb] else x) w := by
            unfold Instr.lookup
            simp only [Sem.run_bind, run_underlying hty, Result.andThen, ex, Sem.run_pure, checkKey_ok hkt hkd (#[] : Array MapEntry).isEmpty 9999 (ρ k) w] at h2 ⊢
            generalize (Instr.findKey q.1 (ρ k) (#[] : Array MapEntry).toList).run P w = r at h2 ⊢
            cases r with
            | halt => cases h2
            | ok a w1 =>
              cases a with
              | none =>
                simp only [Sem.run_bind] at h2 ⊢
                generalize (zeroValue q.2).run P w1 = r2 at h2 ⊢
                cases r2 with
                | halt => cases h2
                | ok z w2 =>
                  simp only [Result.andThen, Sem.run_pure, Result.ok.injEq, Prod.mk.injEq] at h2 ⊢
                  obtain ⟨⟨rfl, rfl⟩, rfl⟩ := h2
                  simp
              | some p =>
                simp only [Sem.run_bind, Result.andThen, Sem.run_pure, Result.ok.injEq, Prod.mk.injEq] at h2 ⊢
                obtain ⟨⟨rfl, rfl⟩, rfl⟩ := h2
                simp
          simp only [execOp, h, Sem.run_bind, e1, Result.andThen, Sem.run_pure]
        · cases hv
  · cases hv
end Go.Abs
namespace Go.Abs
variable {P : Program} {o : Oper} {gs base : Nat} {ι : Inj} {H : Hp} {nx : Nat}
theorem r_len {c : Call} {ty kt et : TypeId} {x : Operand} (h : o.op = .call c) (hb : c.callee = .builtin .len) (ht : c.argTypes[0]? = some ty) (ha : c.args.toList = [x]) (hd : P.underlying ty = some (.map kt et)) : Q1R P o (rLen x) := by
  intro gs base ι H nx w t ρ hst hO v hv
  have hx := hO x (by rw [opnds_call h hb, ha]; exact List.mem_singleton.2 rfl)
  obtain ⟨cs, hrun⟩ := run_blt (P := P) h hb ρ
  rw [args1 ha] at hrun
  simp only [rLen, onMap_eq, onNilMap_eq] at hv
  split at hv
  · rename_i b e
    rw [e] at hx
    obtain ⟨m, hmi, ex⟩ := hx.map_inv
    rw [onMapOb_eq] at hv
    split at hv
    · rename_i es hr
      obtain ⟨ents, hh, hes⟩ := hst.ob hmi hr rfl
      cases hv
      have hl := hes.rel.length
      refine ⟨_, .int _ _, ?_⟩
      rw [hrun]
      simp only [builtin, Builtin.len_, ht, run_underlying hd, ex, Sem.run_bind, Result.andThen, getObj_ok hh (fun _ _ _ => by simp), Sem.run_pure, List.getElem?_toArray, List.getElem?_cons_zero, goInt]
      rw [len_eq, hl]; simp
    · cases hv
  · split at hv
    · rename_i e
      rw [e] at hx
      have ex := hx.nilMap_inv
      cases hv
      refine ⟨_, .int _ _, ?_⟩
      rw [hrun]
      simp [builtin, Builtin.len_, ht, run_underlying hd, ex, goInt]
    · cases hv
theorem find_born {ents : Array MapEntry} (hb : ∀ (i : Nat) (e : MapEntry), ents[i]? = some e → e.born = i) {i : Nat} {e : MapEntry} (h : ents[i]? = some e) : ents.find? (fun x => x.born == i) = some e := by
  rw [← Array.find?_toList, List.find?_eq_some_iff_getElem]
  have hb' : ∀ (j : Nat) (x : MapEntry), ents.toList[j]? = some x → x.born = j := fun j x hx => hb j x (by rw [← Array.getElem?_toList]; exact hx)
  have hi : ents.toList[i]? = some e := by rw [Array.getElem?_toList]; exact h
  obtain ⟨hlt, he⟩ := List.getElem?_eq_some_iff.1 hi
  refine ⟨by rw [hb i e h]; simp, i, hlt, he, fun j hj => ?_⟩
  have := hb' j _ (List.getElem?_eq_getElem (by omega))
  rw [this]; simp; omega
theorem r_entry {it : Operand} (h : o.op = .entry it) : Q1R P o (rEntry it) := by
  intro gs base ι H nx w t ρ hst hO v hv
  have hx := hO it (by rw [h]; exact mem1 rfl)
  simp only [rEntry, onPtr_eq] at hv
  split at hv
  · rename_i b p e
    rw [e] at hx
    obtain ⟨m, hm, hs, ex⟩ := hx.ptr_inv
    rw [nEl_eq] at hv
    split at hv
    · have hs0 : (0 - m.s) = 0 := by omega
      rw [hs0] at ex
      have fin : ∀ (mb i n : Nat) (since : Nat) (seen : Array Nat) (m' : Im), ι mb = some m' → w.heap[m.c]? = some (.mapIter (some m'.c) since (seen.push i) n) →
          onMapOb (row H mb) none (fun es => bEl (Nat.beq (len es) n) (oEl (nth es i) none fun e => some (.tuple [e.1, e.2])) none) = some v → ∃ x, VR ι v x ∧ (execOp ρ o).run P w = .ok (.value x) w := by
        intro mb i n since seen m' hm' hh hv
        rw [onMapOb_eq] at hv
        split at hv
        · rename_i es hr
          obtain ⟨ents, hh2, hes⟩ := hst.ob hm' hr rfl
          rw [bEl_eq, len_eq] at hv
          split at hv
          · rename_i hle
            have hle : es.length = n := Nat.eq_of_beq_eq_true hle
            rw [oEl_eq, nth_eq] at hv
            split at hv
            · cases hv
            · rename_i q hq
              cases hv
              obtain ⟨en, h1, h2, h3⟩ := hes.rel.get i q hq
              have h4 := find_born hes.born (by rw [← Array.getElem?_toList]; exact h1)
              refine ⟨.tuple #[en.key, en.val], .tuple _ _ (.cons _ _ _ _ h2 (.cons _ _ _ _ h3 .nil)), ?_⟩
              simp only [execOp, h, ex, Instr.entry, Sem.run_bind, getObj_ok hh (fun _ _ _ => by simp), Result.andThen, Array.back?_push, getObj_ok hh2 (fun _ _ _ => by simp), hle]
              simp [h4]
          · cases hv
        · cases hv
      rw [onOneOb_eq] at hv
      split at hv
      · rename_i mb i n hr
        obtain ⟨m', since, seen, h1, h2⟩ := hst.ob hm hr rfl
        exact fin mb i n since seen m' h1 h2 hv
      · rw [onMitOb_eq] at hv
        split at hv
        · rename_i mb since seen st hr
          rw [lEl_eq] at hv
          split at hv
          · cases hv
          · rename_i i rest
            obtain ⟨m', h1, h2⟩ := hst.ob hm hr rfl
            refine fin mb i st since rest.reverse.toArray m' h1 ?_ hv
            rw [h2]; simp
        · cases hv
    · cases hv
  · cases hv
end Go.Abs
namespace Go.Abs
variable {P : Program} {o : Oper} {ι : Inj}
/-- an operation that makes a row, soundly -/
def A0R (P : Program) (o : Oper) (f : A0) : Prop := ∀ (ι : Inj) (t : Tm) (ρ : Operand → Value), (∀ x ∈ opnds o.op, VR ι (opd x t) (ρ x)) → ∀ ob k, f t = .some ob k →
  ∃ N : Nat, ob.plain = true ∧ ∀ w : World, ∃ x ob', (execOp ρ o).run P w = .ok (.value x) (w.alloc ob') ∧
    ∀ (gs : Nat) (ι' : Inj) (b : Nat) (m : Im), ι.le ι' → ι' b = some m → m.c = w.heap.size → m.s = 0 → m.n = N → ObR gs ι' m ob (some ob') ∧ VR ι' (k b) x
theorem RowS.mono {ι' : Inj} (hi : ι.le ι') {t : Cl} {s n : Nat} {cs : Array Value} (h : RowS ι t s n cs) : RowS ι' t s n cs := fun o h1 h2 => let ⟨a, v, hv, hr⟩ := h o h1 h2; ⟨a, v, hv, hr.mono hi⟩
theorem CellsR.new {m : Im} {t : Cl} {n : Nat} {cs : Array Value} (h : RowS ι t 0 n cs) (hs : cs.size = n) (h4 : n ≤ 4096) (hm : m.s = 0) (hn : m.n = n) (x : Bool) : CellsR ι m t n x cs (0, 0) :=
  ⟨by omega, fun _ => ⟨hm, hn⟩, by omega, h4, fun i _ hh => by simp at hh, by rw [hm]; exact h⟩
theorem rowAR_ok {l : List AV} {e : TypeId} {k k' : Nat → AV} {ob : Ob} {cs : Array Value} (h : rowAR l e k = .some ob k') (hl : VRs ι l cs.toList) (hc : l.all AV.cell = true) :
    k' = k ∧ ∃ t, ob = .cells t l.length e true ∧ RowS ι t 0 l.length cs ∧ l.length ≤ 4096 ∧ cs.size = l.length := by
  rw [rowAR, bEl_eq, len_eq] at h
  split at h
  · rename_i hle
    have hle : l.length ≤ 4096 := Nat.le_of_ble_eq_true hle
    rw [rowOf_eq, if_pos hc] at h
    cases h
    have := RowS.new hl hc hle
    simp only [Array.toArray_toList] at this
    exact ⟨rfl, _, rfl, this, hle, by have := hl.length; simp at this; omega⟩
  · cases h
theorem run_newRow (e : TypeId) (cs : Array Value) (w : World) : (Go.newRow e cs).run P w = .ok ⟨w.heap.size, 0, none⟩ (w.alloc (.cells cs e)) := rfl
theorem ptr_new {b : Nat} {m : Im} {ι' : Inj} {w : World} (hb : ι' b = some m) (hc : m.c = w.heap.size) (hs : m.s = 0) : VR ι' (.ptr b 0) (.pointer (some ⟨w.heap.size, 0, none⟩)) := by
  have := VR.ptr (ι := ι') b 0 m hb (by omega)
  rw [hc, hs] at this; exact this
theorem a_alloc {e : TypeId} (h : o.op = .alloc e) : A0R P o (aAlloc P e) := by
  intro ι t ρ hO ob k hv
  rw [aAlloc, oEl_eq] at hv
  split at hv
  · cases hv
  rename_i z hz
  obtain ⟨inf, zv, hinf, hzv, rfl⟩ := zeroO_inv hz
  obtain ⟨cs, hv, hcs, _, hcell⟩ := cells_ok (ofValue_ok (ι := ι) zv) hv (by simp)
  obtain ⟨rfl, t', rfl, hrow, hle, hsz⟩ := rowAR_ok hv hcs hcell
  refine ⟨cs.length, rfl, fun w => ⟨.pointer (some ⟨w.heap.size, 0, none⟩), .cells zv.cells e, ?_, fun gs ι' b m hi hb hc hs hn => ⟨⟨zv.cells, (0, 0), rfl, CellsR.new (hrow.mono hi) hsz hle hs hn true⟩, ptr_new hb hc hs⟩⟩⟩
  simp only [execOp, h, Instr.alloc, Sem.run_bind, run_zeroValue hinf hzv, Result.andThen, newVar, run_newRow, Sem.run_pure]
theorem a_box {e : TypeId} {x : Operand} (h : o.op = .box e x) : A0R P o (aBox e x) := by
  intro ι t ρ hO ob k hv
  have hx := hO x (by rw [h]; exact mem1 rfl)
  rw [aBox] at hv
  obtain ⟨cs, hv, hcs, _, hcell⟩ := cells_ok hx hv (by simp)
  obtain ⟨rfl, t', rfl, hrow, hle, hsz⟩ := rowAR_ok hv hcs hcell
  refine ⟨cs.length, rfl, fun w => ⟨.pointer (some ⟨w.heap.size, 0, none⟩), .cells (ρ x).cells e, ?_, fun gs ι' b m hi hb hc hs hn => ⟨⟨_, (0, 0), rfl, CellsR.new (hrow.mono hi) hsz hle hs hn true⟩, ptr_new hb hc hs⟩⟩⟩
  simp only [execOp, h, Instr.box, Sem.run_bind, Result.andThen, newVar, run_newRow, Sem.run_pure]
theorem a_makeMap {ty : TypeId} {r : Option Operand} (h : o.op = .makeMap ty r) : A0R P o (aMakeMap r) := by
  intro ι t ρ hO ob k hv
  rw [aMakeMap, oEl_eq] at hv
  split at hv
  · cases hv
    refine ⟨0, rfl, fun w => ⟨.map (some w.heap.size), .map #[] 0, ?_, fun gs ι' b m hi hb hc hs hn => ⟨⟨#[], rfl, .nil, fun i e he => by simp at he⟩, ?_⟩⟩⟩
    · simp only [execOp, h, Instr.makeMap, Option.map_none, Sem.run_bind, Result.andThen, Sem.run_pure]; rfl
    · have := VR.map (ι := ι') b m hb
      rw [hc] at this; exact this
  · cases hv
theorem a_range {ty : TypeId} {x : Operand} (h : o.op = .range ty x) : A0R P o (aRange P ty x) := by
  intro ι t ρ hO ob k hv
  have hx := hO x (by rw [h]; exact mem1 rfl)
  rw [aRange, bEl_eq] at hv
  split at hv
  · rename_i hd
    have hd' : P.underlying ty = some .string := by
      unfold strD at hd
      split at hd
      · assumption
      · cases hd
    rw [onStr_eq] at hv
    split at hv
    · rename_i l e
      rw [e] at hx
      obtain ⟨bs, ex, hb⟩ := hx.str_inv
      cases hv
      refine ⟨0, rfl, fun w => ⟨.pointer (some ⟨w.heap.size, 0, none⟩), .stringIter bs 0, ?_, fun gs ι' b m hi hbb hc hs hn => ⟨⟨bs, rfl, hb⟩, ptr_new hbb hc hs⟩⟩⟩
      simp only [execOp, h, Instr.range, Sem.run_bind, run_underlying hd', ex, Result.andThen, Sem.run_pure]; rfl
    · cases hv
  · cases hv
/-! rows of nothing -/
theorem repl_eq (l : List AV) : ∀ n : Nat, repl l n = (List.replicate n l).flatten
  | 0 => rfl
  | n + 1 => by show app l (repl l n) = _; rw [app_eq, repl_eq l n, List.replicate_succ]; simp
theorem zeros_list (zero : Array Value) (n : Nat) : ((Array.range (n * zero.size)).map (zero[· % zero.size]!)).toList = (List.replicate n zero.toList).flatten := by
  simp only [Array.toList_map, Array.toList_range]
  induction n with
  | zero => simp
  | succ n ih =>
    rw [Nat.succ_mul, List.range_add, List.map_append, ih, List.replicate_succ', List.flatten_append]
    congr 1
    simp only [List.map_map, List.flatten_cons, List.flatten_nil, List.append_nil]
    apply List.ext_getElem?
    intro i
    by_cases hi : i < zero.size
    · rw [List.getElem?_map, List.getElem?_range hi]
      simp only [Option.map_some, Function.comp]
      have e : (n * zero.size + i) % zero.size = i := by rw [Nat.add_comm, Nat.add_mul_mod_self_right, Nat.mod_eq_of_lt hi]
      rw [e, Array.getElem?_toList, getElem!_pos zero i hi, getElem?_pos zero i hi]
    · rw [List.getElem?_eq_none (by simp; omega), List.getElem?_eq_none (by simp; omega)]
theorem VRs.flatten {l : List AV} {l' : List Value} (h : VRs ι l l') : ∀ n : Nat, VRs ι (List.replicate n l).flatten (List.replicate n l').flatten
  | 0 => .nil
  | n + 1 => by
    rw [List.replicate_succ, List.replicate_succ, List.flatten_cons, List.flatten_cons]
    exact h.append (VRs.flatten h n)
/-- the zeros of n elements of a type -/
theorem zerosK_ok {e : TypeId} {s n : Nat} {β : Type} {d r : β} {k : List AV → β} (h : zerosK P e s n d k = r) (hd : d ≠ r) : ∃ inf zv, P.info? e = some inf ∧ inf.zero = some zv ∧ zv.cells.size = s ∧
    ∃ zs, k zs = r ∧ VRs ι zs ((Array.range (n * s)).map (zv.cells[· % zv.cells.size]!)).toList ∧ zs.all AV.cell = true ∧ zs.length = n * s := by
  rw [zerosK, oEl_eq] at h
  split at h
  · exact absurd h hd
  rename_i z hz
  obtain ⟨inf, zv, hinf, hzv, rfl⟩ := zeroO_inv hz
  obtain ⟨cs, h, hcs, _, hcell⟩ := cells_ok (ofValue_ok (ι := ι) zv) h hd
  rw [bEl_eq, len_eq] at h
  split at h
  · rename_i hs
    have hs : cs.length = s := Nat.eq_of_beq_eq_true hs
    have hlen : zv.cells.size = s := by have := hcs.length; simp at this; omega
    refine ⟨inf, zv, hinf, hzv, hlen, _, h, ?_, ?_, ?_⟩
    · have := zeros_list zv.cells n
      rw [hlen] at this ⊢
      rw [this, repl_eq]
      exact hcs.flatten n
    · rw [repl_eq, List.all_eq_true]
      intro v hv
      rw [List.mem_flatten] at hv
      obtain ⟨l, hl, hv⟩ := hv
      rw [List.eq_of_mem_replicate hl] at hv
      exact List.all_eq_true.1 hcell v hv
    · rw [repl_eq]; simp [hs]
  · exact absurd h hd
theorem elemK_ok {t : TypeId} {β : Type} {d r : β} {k : TypeId → Nat → β} (h : elemK P t d k = r) (hd : d ≠ r) : ∃ e inf, P.underlying t = some (.slice e) ∧ P.info? e = some inf ∧ k e inf.size = r := by
  simp only [elemK, sizeK, oEl_eq] at h
  split at h
  · exact absurd h hd
  · rename_i e he
    split at h
    · exact absurd h hd
    · rename_i inf hinf
      exact ⟨e, inf, elemD_inv he, hinf, h⟩
theorem slice_new {b n c : Nat} {k : Cp} {m : Im} {ι' : Inj} {w : World} (hb : ι' b = some m) (hc : m.c = w.heap.size) (hs : m.s = 0) (hk : CpR m 0 c k) (hn : n ≤ c) : VR ι' (.slice b 0 n k) (.slice (some ⟨w.heap.size, 0, none⟩) n c) :=
  .slice b 0 n k m _ c hb hk hn fun _ => ⟨by rw [hc, hs], by omega⟩
theorem a_makeSlice {ty : TypeId} {l c : Operand} (h : o.op = .makeSlice ty l c) : A0R P o (aMakeSlice P ty l c) := by
  intro ι t ρ hO ob k hv
  have hl := hO l (by rw [h]; exact mem1 rfl)
  have hc := hO c (by rw [h]; exact mem2 rfl)
  rw [aMakeSlice] at hv
  obtain ⟨e, inf, hty, hinf, hv⟩ := elemK_ok hv (by simp)
  rw [bEl_eq] at hv
  split at hv
  · rename_i hbytes
    have hbytes : inf.bytes ≤ 65536 := by
      unfold bytesBelow at hbytes; rw [hinf] at hbytes; exact Nat.le_of_ble_eq_true hbytes
    rw [natK_eq] at hv
    split at hv
    · rename_i k1 n e1
      rw [e1] at hl
      have el := hl.int_inv
      rw [natK_eq] at hv
      split at hv
      · rename_i k2 mm e2
        rw [e2] at hc
        have ec := hc.int_inv
        rw [bEl_eq] at hv
        split at hv
        · rename_i hm4
          have hm4 : mm ≤ 4096 := Nat.le_of_ble_eq_true hm4
          rw [bEl_eq] at hv
          split at hv
          · rename_i hnm
            have hnm : n ≤ mm := Nat.le_of_ble_eq_true hnm
            rw [bEl_eq] at hv
            split at hv
            · rename_i hms
              have hms : mm * inf.size ≤ 4096 := Nat.le_of_ble_eq_true hms
              obtain ⟨inf', zv, hinf', hzv, hzs, zs, hv, hzr, hzc, hzl⟩ := zerosK_ok (ι := ι) hv (by simp)
              rw [hinf] at hinf'; cases hinf'
              rw [rowOf_eq, if_pos hzc] at hv
              cases hv
              have hrow := RowS.new hzr hzc (by omega)
              rw [hzl] at hrow
              simp only [Array.toArray_toList] at hrow
              have hsz : ((Array.range (mm * inf.size)).map (zv.cells[· % zv.cells.size]!)).size = mm * inf.size := by simp
              refine ⟨mm * inf.size, rfl, fun w => ⟨.slice (some ⟨w.heap.size, 0, none⟩) n mm, .cells ((Array.range (mm * inf.size)).map (zv.cells[· % zv.cells.size]!)) e, ?_, fun gs ι' b m hi hb hc hs hn =>
                ⟨⟨_, (0, 0), rfl, CellsR.new (hrow.mono hi) hsz hms hs hn true⟩, slice_new hb hc hs rfl hnm⟩⟩⟩
              have w1 : IntKind.i64.wrap (n : Int) = n := IntWalk.i64_in _ (by omega)
              have w2 : IntKind.i64.wrap (mm : Int) = mm := IntWalk.i64_in _ (by omega)
              have b1 : inf.bytes * mm ≤ 65536 * 4096 := Nat.mul_le_mul hbytes hm4
              have b2 : ((inf.bytes : Int) * (mm : Int)) ≤ 268435456 := by
                have : ((inf.bytes * mm : Nat) : Int) ≤ ((65536 * 4096 : Nat) : Int) := Int.ofNat_le.2 b1
                simpa using this
              have t1 : ¬ ((mm : Int) < 0 ∨ (inf.bytes : Int) * (mm : Int) > 2 ^ 48) := by omega
              have hroom : ∀ (n : Nat) (w : World), (askRoom n).run P w = .ok () w := by
                intro n w; unfold askRoom; split <;> rfl
              have hmap : (Array.range (mm * inf.size)).map ((if mm * inf.size = 0 then #[] else zv.cells)[· % (if mm * inf.size = 0 then (#[] : Array Value) else zv.cells).size]!) = (Array.range (mm * inf.size)).map (zv.cells[· % zv.cells.size]!) := by
                by_cases h0 : mm * inf.size = 0
                · rw [h0]; simp
                · simp only [if_neg h0]
              have e4 : (Instr.makeSlice ty (ρ l) (ρ c)).run P w = .ok (.slice (some ⟨w.heap.size, 0, none⟩) n mm) (w.alloc (.cells ((Array.range (mm * inf.size)).map (zv.cells[· % zv.cells.size]!)) e)) := by
                unfold Instr.makeSlice
                simp only [Sem.run_bind, run_underlying hty, Result.andThen, el, ec, asInt, asIntOf, Sem.run_pure, run_typeInfo hinf, Int.ofNat_eq_natCast, w1, w2, run_sizeOf hinf, Int.toNat_natCast, hroom]
                have c1 : ((decide ((mm : Int) < 0) || decide ((inf.bytes : Int) * (mm : Int) > 2 ^ 48)) || decide ((n : Int) < 0) || decide ((n : Int) > (mm : Int))) = false := by
                  simp only [Bool.or_eq_false_iff, decide_eq_false_iff_not]; omega
                rw [if_neg (by rw [c1]; simp)]
                simp only [Sem.run_bind, run_sizeOf hinf, Result.andThen, hroom]
                by_cases h0 : mm * inf.size = 0
                · simp only [if_pos h0, Sem.run_bind, Sem.run_pure, Result.andThen, run_newRow]
                  simp only [if_pos h0] at hmap
                  rw [hmap]
                · simp only [if_neg h0, Sem.run_bind, run_zeroValue hinf hzv, Sem.run_pure, Result.andThen, run_newRow]
              simp only [execOp, h, Sem.run_bind, e4, Result.andThen, Sem.run_pure]
            · cases hv
          · cases hv
        · cases hv
      · cases hv
    · cases hv
  · cases hv
theorem a_buildSlice {ty : TypeId} {n : Nat} {parts : Array (Nat × Operand)} (h : o.op = .buildSlice ty n parts) : A0R P o (aBuildSlice P ty n parts) := by
  intro ι t ρ hO ob k hv
  have hO' : ∀ p ∈ parts.toList, VR ι (opd p.2 t) (ρ p.2) := fun p hp => hO p.2 (by
    have e : opnds o.op = mapL Prod.snd parts.toList := by rw [h]; rfl
    rw [e, mapL_eq]; exact List.mem_map_of_mem hp)
  rw [aBuildSlice] at hv
  obtain ⟨e, inf, hty, hinf, hv⟩ := elemK_ok hv (by simp)
  rw [bEl_eq] at hv
  split at hv
  · rename_i hms
    have hms : n * inf.size ≤ 4096 := Nat.le_of_ble_eq_true hms
    obtain ⟨inf', zv, hinf', hzv, hzs, zs, hv, hzr, hzc, hzl⟩ := zerosK_ok (ι := ι) hv (by simp)
    rw [hinf] at hinf'; cases hinf'
    rw [rowOf_eq, if_pos hzc] at hv
    have hrow := RowS.new hzr hzc (by omega)
    rw [hzl] at hrow
    simp only [Array.toArray_toList] at hrow
    have hsz : ((Array.range (n * inf.size)).map (zv.cells[· % zv.cells.size]!)).size = n * inf.size := by simp
    rw [oEl_eq] at hv
    split at hv
    · cases hv
    rename_i c hc
    cases hv
    obtain ⟨cells', hf, hs', hr'⟩ := fillP_ok (placeC := fun i => some (i * inf.size, inf.size)) (fun i q hq => hq) hms parts.toList _ c _ hO' hrow hsz hc
    refine ⟨n * inf.size, rfl, fun w => ⟨.slice (some ⟨w.heap.size, 0, none⟩) n n, .cells cells' e, ?_, fun gs ι' b m hi hb hc hs hn =>
      ⟨⟨_, (0, 0), rfl, CellsR.new (hr'.mono hi) hs' hms hs hn true⟩, slice_new hb hc hs rfl (Nat.le_refl _)⟩⟩⟩
    have e4 : (Instr.buildSlice ty n (parts.map fun (i, x) => (i, ρ x))).run P w = .ok (.slice (some ⟨w.heap.size, 0, none⟩) n n) (w.alloc (.cells cells' e)) := by
      unfold Instr.buildSlice
      have hp : (parts.map fun (i, x) => (i, ρ x)).toList = parts.toList.map fun p => (p.1, ρ p.2) := by rw [Array.toList_map]
      simp only [Sem.run_bind, run_underlying hty, Result.andThen, run_sizeOf hinf, hp]
      rw [if_neg (by omega)]
      by_cases h0 : n * inf.size = 0
      · have hmap : (Array.range (n * inf.size)).map ((#[] : Array Value)[· % (#[] : Array Value).size]!) = (Array.range (n * inf.size)).map (zv.cells[· % zv.cells.size]!) := by rw [h0]; simp
        simp only [if_pos h0, Sem.run_bind, Sem.run_pure, Result.andThen, hmap, hf, run_newRow]
      · simp only [if_neg h0, Sem.run_bind, run_zeroValue hinf hzv, Sem.run_pure, Result.andThen, hf, run_newRow]
    simp only [execOp, h, Sem.run_bind, e4, Result.andThen, Sem.run_pure]
  · cases hv
end Go.Abs
