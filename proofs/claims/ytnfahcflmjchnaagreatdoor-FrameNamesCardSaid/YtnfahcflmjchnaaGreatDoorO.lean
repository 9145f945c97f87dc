import Derived.Test.YtnfahcflmjchnaaGreatDoorFnE
import Derived.Test.YtnfahcflmjchnaaGreatDoorK0
import Derived.Test.YtnfahcflmjchnaaGreatDoorK1
import Derived.Test.YtnfahcflmjchnaaGreatDoorK2
import Derived.Test.YtnfahcflmjchnaaGreatDoorK3
import Derived.Test.YtnfahcflmjchnaaGreatDoorK4
import Derived.Test.YtnfahcflmjchnaaGreatDoorK5
import Derived.Test.YtnfahcflmjchnaaGreatDoorK6
import Derived.Test.YtnfahcflmjchnaaGreatDoorK7
import Derived.Test.YtnfahcflmjchnaaGreatDoorL0
import Derived.Test.YtnfahcflmjchnaaGreatDoorL1
import Derived.Test.YtnfahcflmjchnaaGreatDoorL2
import Derived.Test.YtnfahcflmjchnaaGreatDoorM
import Derived.Test.YtnfahcflmjchnaaGreatDoorN
import Derived.Shelf.Strings.Search2
set_option linter.all false
namespace Go.Abs
open Go Go.Shelf Go.Proofs
set_option maxRecDepth 100000
theorem names : NamesOk Tryz.prog := by
  have h : (Tryz.prog.funcs.all fun fn => !(fn.name == "runtime.NumGoroutine")) = true := by kernel_rfl
  intro g fn hfn
  have := (Array.all_eq_true.1 h)
  obtain ⟨hi, e⟩ := Array.getElem?_eq_some_iff.1 hfn
  have := this g hi
  rw [e] at this
  simpa using this
theorem mixed : Tryz.prog.follows .mixedOrders = true := by kernel_rfl
theorem gsize : Tryz.prog.globals.size = 8 := by kernel_rfl
def ren : Ren :=
{
  f := fun x =>
    match x with
    | 219 => 167
    | 217 => 102
    | 225 => 216
    | 224 => 217
    | 267 => 218
    | 266 => 160
    | 314 => 254
    | n => n,
  t := fun x =>
    match x with
    | 9 => 9
    | 3 => 3
    | 4 => 4
    | 5 => 5
    | 46 => 214
    | 146 => 289
    | 51 => 252
    | n => n,
  g := fun x =>
    match x with
    | 1 => 0
    | n => n }
theorem lays219 : Lays.n219 Tryz.prog ren :=
{ mixed := mixed, f217 := Eq.trans Tryz.func102 (congrArg some (by kernel_rfl)),
  f219 := Eq.trans Tryz.func167 (congrArg some (by kernel_rfl)),
  f224 := Eq.trans Tryz.func217 (congrArg some (by kernel_rfl)),
  f225 := Eq.trans Tryz.func216 (congrArg some (by kernel_rfl)),
  f266 := Eq.trans Tryz.func160 (congrArg some (by kernel_rfl)),
  f267 := Eq.trans Tryz.func218 (congrArg some (by kernel_rfl)),
  f314 := Eq.trans Tryz.func254 (congrArg some (by kernel_rfl)), t3 := Tryz.underlying3,
  a3 := Tryz.isAgg3, z3 := Tryz.sizeOf3, v3 := Tryz.zeroValue3, t4 := Tryz.underlying4, a4 := Tryz.isAgg4,
  z4 := Tryz.sizeOf4, v4 := Tryz.zeroValue4, t5 := Tryz.underlying5, a5 := Tryz.isAgg5, z5 := Tryz.sizeOf5,
  v5 := Tryz.zeroValue5, t9 := Tryz.underlying9, a9 := Tryz.isAgg9, z9 := Tryz.sizeOf9, v9 := Tryz.zeroValue9,
  t46 := Tryz.underlying214, a46 := Tryz.isAgg214, z46 := Tryz.sizeOf214, v46 := Tryz.zeroValue214,
  t51 := Tryz.underlying252, a51 := Tryz.isAgg252, z51 := Tryz.sizeOf252, v51 := Tryz.zeroValue252,
  t146 := Tryz.underlying289, a146 := Tryz.isAgg289, z146 := Tryz.sizeOf289, v146 := Tryz.zeroValue289,
  g1 := by kernel_rfl }
theorem index_calls (s sub : ByteArray) (m : Int) (w : World) (hs : s.size < 4294967281) (hm : w.cell? ⟨0, 0, none⟩ = some (.int .i64 m)) :
    Calls Tryz.prog 167 #[.string s, .string sub] w fun e w' => e = .returned (.int .i64 (Lib.index s.data.toList sub.data.toList)) ∧ w' = w := Any.stringslite_Index lays219 s sub m w hs hm
theorem known_same : Known Tryz.prog 155 Extern.AbiNoEscape.same := ⟨Tryz.f155, Tryz.func155, by kernel_rfl, by kernel_rfl, by kernel_rfl, by kernel_rfl⟩
theorem known_idx : Known Tryz.prog 160 Extern.BytealgIndexByte.indexByte := ⟨Tryz.f160, Tryz.func160, by kernel_rfl, by kernel_rfl, by kernel_rfl, by kernel_rfl⟩
theorem known_count : Known Tryz.prog 215 Extern.BytealgCount.count := ⟨Tryz.f215, Tryz.func215, by kernel_rfl, by kernel_rfl, by kernel_rfl, by kernel_rfl⟩
theorem known_make : Known Tryz.prog 242 (Extern.BytealgMakeNoZero.makeNoZero Tryz.f242.params #[119]) := ⟨Tryz.f242, Tryz.func242, by kernel_rfl, by kernel_rfl, by kernel_rfl, by kernel_rfl⟩
theorem orc_cons {P : Program} {gs : Nat} {g : FuncId} {oc : Oc} {X : Orc} (h : OcOk gs P g oc) (hX : OrcOk gs P X) : OrcOk gs P (fun k => bEl (Nat.beq k g) (some oc) (X k)) := by
  intro k oc' hk
  change bEl (Nat.beq k g) (some oc) (X k) = some oc' at hk
  rw [bEl_eq] at hk
  split at hk
  · rename_i e
    have e := Nat.eq_of_beq_eq_true e
    subst e
    cases hk
    exact h
  · exact hX k oc' hk
theorem orc_nil {P : Program} {gs : Nat} : OrcOk gs P (fun _ => none) := by
  intro k oc hk; cases hk
theorem x0_ok : OrcOk Tryz.prog.globals.size Tryz.prog X0 :=
  orc_cons (oc_index (by rw [gsize]; decide) names Tryz.func167 (by kernel_rfl) index_calls) (orc_cons (oc_indexByte known_idx) (orc_cons (oc_count known_count) (orc_cons (oc_make known_make Tryz.underlying119) (orc_cons (oc_same known_same) orc_nil))))
theorem chk_all {X : Orc} {g : FuncId} {e : Ent} (h : chk X g e = fun _ => true) : ∀ m, entB Tryz.prog X fuel 0 3 g e m = true := fun m => congrFun h m
theorem tab_ok {X : Orc} {g : FuncId} {l : List Ent} (hX : OrcOk Tryz.prog.globals.size Tryz.prog X) (h : ∀ e ∈ l, chk X g e = fun _ => true) : OcOk Tryz.prog.globals.size Tryz.prog g (ocT 0 3 l) :=
  oc_tab names hX mixed (by rw [gsize]; decide) fun e he => chk_all (h e he)
theorem mem_nil {p : Ent → Prop} : ∀ e ∈ ([] : List Ent), p e := by intro e h; cases h
theorem mem_cons {p : Ent → Prop} {a : Ent} {l : List Ent} (h : p a) (hl : ∀ e ∈ l, p e) : ∀ e ∈ a :: l, p e := by
  intro e he
  rcases List.mem_cons.1 he with rfl | he
  · exact h
  · exact hl e he
theorem x1_ok : OrcOk Tryz.prog.globals.size Tryz.prog X1 := orc_cons (tab_ok x0_ok (l := t14) (mem_cons c14_41 (mem_cons c14_1193 (mem_cons c14_2319 (mem_cons c14_3553 (mem_cons c14_4726 (mem_cons c14_5850 (mem_cons c14_7640 (mem_cons c14_9435 (mem_cons c14_11710 (mem_cons c14_13991 (mem_cons c14_15716 (mem_cons c14_16837 (mem_cons c14_17959 (mem_cons c14_19114 (mem_cons c14_19407 (mem_cons c14_19532 (mem_cons c14_19536 (mem_cons c14_19579 (mem_cons c14_21164 (mem_cons c14_22334 (mem_cons c14_23530 (mem_cons c14_25121 mem_nil))))))))))))))))))))))) x0_ok
theorem x2_ok : OrcOk Tryz.prog.globals.size Tryz.prog X2 := orc_cons (tab_ok x1_ok (l := t5) (mem_cons c5_38 mem_nil)) (orc_cons (tab_ok x1_ok (l := t6) (mem_cons c6_1190 mem_nil)) (orc_cons (tab_ok x1_ok (l := t7) (mem_cons c7_2316 (mem_cons c7_3550 mem_nil))) (orc_cons (tab_ok x1_ok (l := t8) (mem_cons c8_4721 (mem_cons c8_17954 mem_nil))) (orc_cons (tab_ok x1_ok (l := t10) (mem_cons c10_5848 mem_nil)) (orc_cons (tab_ok x1_ok (l := t11) (mem_cons c11_7296 (mem_cons c11_19076 mem_nil))) (orc_cons (tab_ok x1_ok (l := t12) (mem_cons c12_9431 (mem_cons c12_11706 (mem_cons c12_13987 (mem_cons c12_15712 (mem_cons c12_16833 (mem_cons c12_19575 mem_nil))))))) (orc_cons (tab_ok x1_ok (l := t42) (mem_cons c42_21161 mem_nil)) (orc_cons (tab_ok x1_ok (l := t43) (mem_cons c43_22331 mem_nil)) (orc_cons (tab_ok x1_ok (l := t44) (mem_cons c44_23527 mem_nil)) x1_ok)))))))))
theorem x3_ok : OrcOk Tryz.prog.globals.size Tryz.prog X3 := orc_cons (tab_ok x2_ok (l := t15) (mem_cons c15_19546 mem_nil)) x2_ok
end Go.Abs
