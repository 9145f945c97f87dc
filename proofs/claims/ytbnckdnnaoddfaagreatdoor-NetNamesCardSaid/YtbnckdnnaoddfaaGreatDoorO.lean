import Derived.Test.YtbnckdnnaoddfaaGreatDoorNnE
import Derived.Test.YtbnckdnnaoddfaaGreatDoorNnW
import Derived.Test.YtbnckdnnaoddfaaGreatDoorK0
import Derived.Test.YtbnckdnnaoddfaaGreatDoorK1
import Derived.Test.YtbnckdnnaoddfaaGreatDoorK2
import Derived.Test.YtbnckdnnaoddfaaGreatDoorK3
import Derived.Test.YtbnckdnnaoddfaaGreatDoorK4
import Derived.Test.YtbnckdnnaoddfaaGreatDoorK5
import Derived.Test.YtbnckdnnaoddfaaGreatDoorL0
import Derived.Test.YtbnckdnnaoddfaaGreatDoorL1
import Derived.Test.YtbnckdnnaoddfaaGreatDoorL2
import Derived.Test.YtbnckdnnaoddfaaGreatDoorM
import Derived.Test.YtbnckdnnaoddfaaGreatDoorN
import Derived.Shelf.Strings.Search2
set_option linter.all false
namespace Go.Abs
open Go Go.Shelf Go.Proofs
set_option maxRecDepth 100000
theorem names : NamesOk Tryz.prog := by
  have h : (Tryz.prog.funcs.all fun fn => !(fn.name == "runtime.NumGoroutine")) = true := by kernel_rfl
  intro g fn hfn
  have := (Array.all_eq_true.1 h)
  obtain ⟨hi, e⟩ := Array.getElem?_eq_some_iff.1 hfn
  have := this g hi
  rw [e] at this
  simpa using this
theorem mixed : Tryz.prog.follows .mixedOrders = true := by kernel_rfl
theorem gsize : Tryz.prog.globals.size = 11 := by kernel_rfl
def ren : Ren :=
{
  f := fun x =>
    match x with
    | 219 => 134
    | 217 => 125
    | 225 => 212
    | 224 => 213
    | 267 => 214
    | 266 => 203
    | 314 => 287
    | n => n,
  t := fun x =>
    match x with
    | 9 => 9
    | 3 => 3
    | 4 => 4
    | 5 => 5
    | 46 => 179
    | 146 => 373
    | 51 => 262
    | n => n,
  g := fun x =>
    match x with
    | 1 => 1
    | n => n }
theorem lays219 : Lays.n219 Tryz.prog ren :=
{ mixed := mixed,
  f217 := Eq.trans Tryz.func125 (congrArg some (by kernel_rfl)),
  f219 := Eq.trans Tryz.func134 (congrArg some (by kernel_rfl)),
  f224 := Eq.trans Tryz.func213 (congrArg some (by kernel_rfl)),
  f225 := Eq.trans Tryz.func212 (congrArg some (by kernel_rfl)),
  f266 := Eq.trans Tryz.func203 (congrArg some (by kernel_rfl)),
  f267 := Eq.trans Tryz.func214 (congrArg some (by kernel_rfl)),
  f314 := Eq.trans Tryz.func287 (congrArg some (by kernel_rfl)),
  t3 := Tryz.underlying3, a3 := Tryz.isAgg3, z3 := Tryz.sizeOf3, v3 := Tryz.zeroValue3,
  t4 := Tryz.underlying4, a4 := Tryz.isAgg4, z4 := Tryz.sizeOf4, v4 := Tryz.zeroValue4,
  t5 := Tryz.underlying5, a5 := Tryz.isAgg5, z5 := Tryz.sizeOf5, v5 := Tryz.zeroValue5,
  t9 := Tryz.underlying9, a9 := Tryz.isAgg9, z9 := Tryz.sizeOf9, v9 := Tryz.zeroValue9,
  t46 := Tryz.underlying179, a46 := Tryz.isAgg179, z46 := Tryz.sizeOf179, v46 := Tryz.zeroValue179,
  t51 := Tryz.underlying262, a51 := Tryz.isAgg262, z51 := Tryz.sizeOf262, v51 := Tryz.zeroValue262,
  t146 := Tryz.underlying373, a146 := Tryz.isAgg373, z146 := Tryz.sizeOf373, v146 := Tryz.zeroValue373,
  g1 := by kernel_rfl }
theorem index_calls (s sub : ByteArray) (m : Int) (w : World) (hs : s.size < 4294967281) (hm : w.cell? ⟨1, 0, none⟩ = some (.int .i64 m)) :
    Calls Tryz.prog 134 #[.string s, .string sub] w fun e w' => e = .returned (.int .i64 (Lib.index s.data.toList sub.data.toList)) ∧ w' = w := Any.stringslite_Index lays219 s sub m w hs hm
theorem known_same : Known Tryz.prog 276 Extern.AbiNoEscape.same := ⟨Tryz.f276, Tryz.func276, by kernel_rfl, by kernel_rfl, by kernel_rfl, by kernel_rfl⟩
theorem known_idx : Known Tryz.prog 203 Extern.BytealgIndexByte.indexByte := ⟨Tryz.f203, Tryz.func203, by kernel_rfl, by kernel_rfl, by kernel_rfl, by kernel_rfl⟩
theorem known_count : Known Tryz.prog 280 Extern.BytealgCount.count := ⟨Tryz.f280, Tryz.func280, by kernel_rfl, by kernel_rfl, by kernel_rfl, by kernel_rfl⟩
theorem known_make : Known Tryz.prog 277 (Extern.BytealgMakeNoZero.makeNoZero Tryz.f277.params #[218]) := ⟨Tryz.f277, Tryz.func277, by kernel_rfl, by kernel_rfl, by kernel_rfl, by kernel_rfl⟩
theorem orc_cons {P : Program} {gs : Nat} {g : FuncId} {oc : Oc} {X : Orc} (h : OcOk gs P g oc) (hX : OrcOk gs P X) : OrcOk gs P (fun k => bEl (Nat.beq k g) (some oc) (X k)) := by
  intro k oc' hk
  change bEl (Nat.beq k g) (some oc) (X k) = some oc' at hk
  rw [bEl_eq] at hk
  split at hk
  · rename_i e
    have e := Nat.eq_of_beq_eq_true e
    subst e
    cases hk
    exact h
  · exact hX k oc' hk
theorem orc_nil {P : Program} {gs : Nat} : OrcOk gs P (fun _ => none) := by
  intro k oc hk; cases hk
theorem x00_ok : OrcOk Tryz.prog.globals.size Tryz.prog X00 :=
  orc_cons (oc_index (by rw [gsize]; decide) names Tryz.func134 (by kernel_rfl) index_calls) (orc_cons (oc_indexByte known_idx) (orc_cons (oc_count known_count) (orc_cons (oc_make known_make Tryz.underlying218) (orc_cons (oc_same known_same) orc_nil))))
theorem x0_ok : OrcOk Tryz.prog.globals.size Tryz.prog X0 := orc_cons (oc_fresh names x00_ok mixed (fun m => congrFun cW m) (by kernel_rfl)) x00_ok
theorem x1_ok : OrcOk Tryz.prog.globals.size Tryz.prog X1 := orc_cons (oc_tried names x0_ok mixed) x0_ok
theorem chk_all {X : Orc} {g : FuncId} {e : Ent} (h : chk X g e = fun _ => true) : ∀ m, entB Tryz.prog X fuel 1 3 g e m = true := fun m => congrFun h m
theorem tab_ok {X : Orc} {g : FuncId} {l : List Ent} (hX : OrcOk Tryz.prog.globals.size Tryz.prog X) (h : ∀ e ∈ l, chk X g e = fun _ => true) : OcOk Tryz.prog.globals.size Tryz.prog g (ocT 1 3 l) :=
  oc_tab names hX mixed (by rw [gsize]; decide) fun e he => chk_all (h e he)
theorem mem_nil {p : Ent → Prop} : ∀ e ∈ ([] : List Ent), p e := by intro e h; cases h
theorem mem_cons {p : Ent → Prop} {a : Ent} {l : List Ent} (h : p a) (hl : ∀ e ∈ l, p e) : ∀ e ∈ a :: l, p e := by
  intro e he
  rcases List.mem_cons.1 he with rfl | he
  · exact h
  · exact hl e he
theorem x2_ok : OrcOk Tryz.prog.globals.size Tryz.prog X2 := (orc_cons (tab_ok x0_ok (l := t257) (mem_cons c257_6230 (mem_cons c257_8068 (mem_cons c257_9015 (mem_cons c257_9953 (mem_cons c257_11128 mem_nil)))))) x1_ok)
theorem x3_ok : OrcOk Tryz.prog.globals.size Tryz.prog X3 := (orc_cons (tab_ok x2_ok (l := t5) (mem_cons c5_102 (mem_cons c5_574 (mem_cons c5_3396 (mem_cons c5_12206 mem_nil))))) (orc_cons (tab_ok x2_ok (l := t7) (mem_cons c7_1034 mem_nil)) (orc_cons (tab_ok x2_ok (l := t8) (mem_cons c8_1513 mem_nil)) (orc_cons (tab_ok x2_ok (l := t9) (mem_cons c9_1967 mem_nil)) (orc_cons (tab_ok x2_ok (l := t10) (mem_cons c10_2427 mem_nil)) (orc_cons (tab_ok x2_ok (l := t13) (mem_cons c13_2957 mem_nil)) (orc_cons (tab_ok x2_ok (l := t14) (mem_cons c14_3835 mem_nil)) (orc_cons (tab_ok x2_ok (l := t15) (mem_cons c15_4196 mem_nil)) (orc_cons (tab_ok x2_ok (l := t16) (mem_cons c16_4237 (mem_cons c16_4585 (mem_cons c16_13453 mem_nil)))) (orc_cons (tab_ok x2_ok (l := t46) (mem_cons c46_12629 mem_nil)) (orc_cons (tab_ok x2_ok (l := t57) (mem_cons c57_4822 mem_nil)) (orc_cons (tab_ok x2_ok (l := t58) (mem_cons c58_6226 mem_nil)) x2_ok))))))))))))
theorem x4_ok : OrcOk Tryz.prog.globals.size Tryz.prog X4 := (orc_cons (tab_ok x3_ok (l := t17) (mem_cons c17_4822 mem_nil)) x3_ok)
end Go.Abs
