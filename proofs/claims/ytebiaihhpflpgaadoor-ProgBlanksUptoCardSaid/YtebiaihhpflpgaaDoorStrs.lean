/- Packages strings and strconv by the kit's theorems. -/
import Derived.Test.YtebiaihhpflpgaaDoorTxtP
import Derived.Test.YtebiaihhpflpgaaDoorAbsG4
import Derived.Shelf.Strings.Split
import Derived.Shelf.Strings.Search3
import Derived.Shelf.Strings.Cut
import Derived.Shelf.Strings.Prefix
import Derived.Shelf.Strings.OnBuilder
import Derived.Shelf.Strconv.Itoa3
import Derived.Shelf.Strconv.ErrVarParseInt
import Derived.Lib.ItoaLen
import Derived.Lib.SmallJoins
import Derived.Ground.NamesProg
set_option linter.all false
namespace Go.Proofs.YtebiaihhpflpgaaDoor
open Go Go.Abs

open Go.RowKit
def itoaB (n : Int) : ByteArray := ⟨(Lib.itoa n).toArray⟩
theorem itoaB_size {n : Int} (hp : -9223372036854775808 ≤ n ∧ n ≤ 9223372036854775807) : (itoaB n).size ≤ 21 := by
  have := Lib.itoa_length_le n hp.1 hp.2
  show (Lib.itoa n).toArray.size ≤ 21
  simpa using this
theorem below_drewN {w : World} : ∀ n, Below w.heap.size w (w.drewN n) := fun n => ⟨rfl, rfl, rfl, Nat.le_refl _, fun _ _ => rfl⟩
section
open Go.Shelf
def Tryd.itoaL_ren : Go.Shelf.Ren := ⟨fun | 171 => 36 | 243 => 53 | 246 => 67 | 283 => 73 | 284 => 74 | 285 => 75 | 286 => 76 | 129 => 83 | 317 => 82 | 318 => 84 | 319 => 85 | 320 => 86 | 337 => 91 | 338 => 92 | n => n, fun | 3 => 3 | 9 => 9 | 2 => 2 | 4 => 4 | 171 => 105 | 0 => 0 | 53 => 91 | 37 => 44 | 5 => 5 | 173 => 108 | 212 => 117 | 51 => 88 | 20 => 20 | 213 => 118 | 46 => 76 | 232 => 129 | 233 => 130 | n => n, fun | 17 => 3 | 18 => 6 | 19 => 7 | n => n⟩
theorem Tryd.itoaL : Go.Proofs.LaysM.n171 Tryd.prog Tryd.itoaL_ren := {
  mixed := by kernel_rfl
  f129 := Tryd.func83.trans (congrArg some (by kernel_rfl))
  f171 := Tryd.func36.trans (congrArg some (by kernel_rfl))
  f243 := Tryd.func53.trans (congrArg some (by kernel_rfl))
  f246 := Tryd.func67.trans (congrArg some (by kernel_rfl))
  f283 := Tryd.func73.trans (congrArg some (by kernel_rfl))
  f284 := Tryd.func74.trans (congrArg some (by kernel_rfl))
  f285 := Tryd.func75.trans (congrArg some (by kernel_rfl))
  f286 := Tryd.func76.trans (congrArg some (by kernel_rfl))
  f317 := Tryd.func82.trans (congrArg some (by kernel_rfl))
  f318 := Tryd.func84.trans (congrArg some (by kernel_rfl))
  f319 := Tryd.func85.trans (congrArg some (by kernel_rfl))
  f320 := Tryd.func86.trans (congrArg some (by kernel_rfl))
  f337 := Tryd.func91.trans (congrArg some (by kernel_rfl))
  f338 := Tryd.func92.trans (congrArg some (by kernel_rfl))
  t0 := Tryd.underlying0
  a0 := Tryd.isAgg0
  z0 := Tryd.sizeOf0
  v0 := Tryd.zeroValue0
  t2 := Tryd.underlying2
  a2 := Tryd.isAgg2
  z2 := Tryd.sizeOf2
  v2 := Tryd.zeroValue2
  t3 := Tryd.underlying3
  a3 := Tryd.isAgg3
  z3 := Tryd.sizeOf3
  v3 := Tryd.zeroValue3
  t4 := Tryd.underlying4
  a4 := Tryd.isAgg4
  z4 := Tryd.sizeOf4
  v4 := Tryd.zeroValue4
  t5 := Tryd.underlying5
  a5 := Tryd.isAgg5
  z5 := Tryd.sizeOf5
  v5 := Tryd.zeroValue5
  t9 := Tryd.underlying9
  a9 := Tryd.isAgg9
  z9 := Tryd.sizeOf9
  v9 := Tryd.zeroValue9
  t20 := Tryd.underlying20
  a20 := Tryd.isAgg20
  z20 := Tryd.sizeOf20
  v20 := Tryd.zeroValue20
  t37 := Tryd.underlying44
  a37 := Tryd.isAgg44
  z37 := Tryd.sizeOf44
  v37 := Tryd.zeroValue44
  t46 := Tryd.underlying76
  a46 := Tryd.isAgg76
  z46 := Tryd.sizeOf76
  v46 := Tryd.zeroValue76
  t51 := Tryd.underlying88
  a51 := Tryd.isAgg88
  z51 := Tryd.sizeOf88
  v51 := Tryd.zeroValue88
  t53 := Tryd.underlying91
  a53 := Tryd.isAgg91
  z53 := Tryd.sizeOf91
  v53 := Tryd.zeroValue91
  t171 := Tryd.underlying105
  a171 := Tryd.isAgg105
  z171 := Tryd.sizeOf105
  v171 := Tryd.zeroValue105
  t173 := Tryd.underlying108
  a173 := Tryd.isAgg108
  z173 := Tryd.sizeOf108
  v173 := Tryd.zeroValue108
  t212 := Tryd.underlying117
  a212 := Tryd.isAgg117
  z212 := Tryd.sizeOf117
  v212 := Tryd.zeroValue117
  t213 := Tryd.underlying118
  a213 := Tryd.isAgg118
  z213 := Tryd.sizeOf118
  t232 := Tryd.underlying129
  a232 := Tryd.isAgg129
  z232 := Tryd.sizeOf129
  v232 := Tryd.zeroValue129
  t233 := Tryd.underlying130
  a233 := Tryd.isAgg130
  z233 := Tryd.sizeOf130
  v233 := Tryd.zeroValue130
  g17 := by kernel_rfl
  g18 := by kernel_rfl
  g19 := by kernel_rfl
  i0 := by kernel_rfl
  i2 := by kernel_rfl
  i3 := by kernel_rfl
  i4 := by kernel_rfl
  i5 := by kernel_rfl
  i9 := by kernel_rfl
  i20 := by kernel_rfl
  i37 := by kernel_rfl
  i46 := by kernel_rfl
  i51 := by kernel_rfl
  i53 := by kernel_rfl
  i171 := by kernel_rfl
  i173 := by kernel_rfl
  i212 := by kernel_rfl
  i232 := by kernel_rfl
  i233 := by kernel_rfl
  m17 := by kernel_rfl
  m18 := by kernel_rfl
  m19 := by kernel_rfl }
end
def itoaC_R (r : Th (ByteArray)) : AV := .s fun _ => (r ())
def itoaC_P (n : Int) : Prop := -9223372036854775808 ≤ n ∧ n ≤ 9223372036854775807
def itoaC_D : Det := fun A => match A with
  | [.i .i64 n] => some (fun _ => itoaC_P (n ()), itoaC_R fun _ => itoaB (n ()))
  | _ => none
theorem itoaC_vc (n : Int) (hp : -9223372036854775808 ≤ n ∧ n ≤ 9223372036854775807) : FnOk Tryd.prog 36 [.i .i64 fun _ => n] [] (outA (itoaC_R fun _ => itoaB n) []) := by
  have fin : outA (itoaC_R fun _ => itoaB n) [] (.s fun _ => itoaB n) [] [] := by
    cbv
    repeat' first | (refine Stp.mk ?_; cbv) | (refine Gen.mk fun r hr => ?_; (try simp only [Dat.ok, Dat.dec, Leaf.ok, Leaf.val, Z0, Z1, val_sl, val_nil] at hr); cbv) | exact trivial | rfl | refine Both.mk ?_ ?_ | (refine Imp.mk fun h => ?_; (try dsimp only at h); (try simp only [nc, Int.toNat_natCast, ne_eq, zz] at h); (try simp only [nc] at h)) | refine Ob.mk ?_ ?_ | refine Chk.mk (by kernel_rfl) ?_ | refine Eq'.mk ?_ | (refine AllN.mk fun i hi => ?_; cbv) | (refine AllC.mk fun c hc hcm => ?_; (try dsimp only at hc); cbv) | (refine AllS.mk fun r hr => ?_; (try simp only [Dat.ok, Dat.dec, Leaf.ok, Leaf.val, Z0, Z1, val_sl] at hr); cbv)
  refine fnOk_kit fin fun w M β cp vs hd hA => ?_
  obtain ⟨v, rfl, hv⟩ := repL_1 hA
  rw [rep_i hv]
  refine (Any.strconv_Itoa Tryd.itoaL n hp.1 hp.2 w hd.tb.1).mono ?_
  rintro e w' ⟨rfl, k, os, rfl⟩
  exact ⟨_, rfl, .s _, ⟨rfl, rfl, rfl, by rw [Sort.size_grow]; exact Nat.le_add_right _ _, fun j hj => by
    show (w.heap ++ os)[j]? = _
    rw [Array.getElem?_append_left hj]⟩⟩
theorem itoaC_ok : PcOk Tryd.prog 36 (detPC itoaC_D) := det_okA fun A p r h hp0 => by
  unfold itoaC_D at h
  split at h
  · rename_i n
    cases h
    have hp := hp0
    exact ⟨rfl, FnOk.pre (A' := [.i .i64 fun _ => n ()]) (itoaC_vc (n ()) hp) (.mk (.mk (.mk rfl) (.mk rfl)) (trivial))⟩
  · cases h
def cutV (s sep : ByteArray) : ByteArray × ByteArray × Bool := (⟨(Lib.cut s.data.toList sep.data.toList).1.toArray⟩, ⟨(Lib.cut s.data.toList sep.data.toList).2.1.toArray⟩, (Lib.cut s.data.toList sep.data.toList).2.2)
section
open Go.Shelf
def Tryd.cutL_ren : Go.Shelf.Ren := ⟨fun | 145 => 20 | 220 => 37 | 219 => 46 | 217 => 61 | 225 => 62 | 224 => 63 | 267 => 64 | 266 => 71 | 314 => 72 | n => n, fun | 9 => 9 | 4 => 4 | 59 => 55 | 3 => 3 | 5 => 5 | 46 => 76 | 146 => 89 | 51 => 88 | n => n, fun | 1 => 0 | n => n⟩
theorem Tryd.cutL : Go.Proofs.Lays.n145 Tryd.prog Tryd.cutL_ren := {
  mixed := by kernel_rfl
  f145 := Tryd.func20.trans (congrArg some (by kernel_rfl))
  f217 := Tryd.func61.trans (congrArg some (by kernel_rfl))
  f219 := Tryd.func46.trans (congrArg some (by kernel_rfl))
  f220 := Tryd.func37.trans (congrArg some (by kernel_rfl))
  f224 := Tryd.func63.trans (congrArg some (by kernel_rfl))
  f225 := Tryd.func62.trans (congrArg some (by kernel_rfl))
  f266 := Tryd.func71.trans (congrArg some (by kernel_rfl))
  f267 := Tryd.func64.trans (congrArg some (by kernel_rfl))
  f314 := Tryd.func72.trans (congrArg some (by kernel_rfl))
  t3 := Tryd.underlying3
  a3 := Tryd.isAgg3
  z3 := Tryd.sizeOf3
  v3 := Tryd.zeroValue3
  t4 := Tryd.underlying4
  a4 := Tryd.isAgg4
  z4 := Tryd.sizeOf4
  v4 := Tryd.zeroValue4
  t5 := Tryd.underlying5
  a5 := Tryd.isAgg5
  z5 := Tryd.sizeOf5
  v5 := Tryd.zeroValue5
  t9 := Tryd.underlying9
  a9 := Tryd.isAgg9
  z9 := Tryd.sizeOf9
  v9 := Tryd.zeroValue9
  t46 := Tryd.underlying76
  a46 := Tryd.isAgg76
  z46 := Tryd.sizeOf76
  v46 := Tryd.zeroValue76
  t51 := Tryd.underlying88
  a51 := Tryd.isAgg88
  z51 := Tryd.sizeOf88
  v51 := Tryd.zeroValue88
  t59 := Tryd.underlying55
  a59 := Tryd.isAgg55
  z59 := Tryd.sizeOf55
  v59 := Tryd.zeroValue55
  t146 := Tryd.underlying89
  a146 := Tryd.isAgg89
  z146 := Tryd.sizeOf89
  v146 := Tryd.zeroValue89
  g1 := by kernel_rfl }
end
def cutD_R (r : Th (ByteArray × ByteArray × Bool)) : AV := .tup [.s fun _ => (r ()).1, .s fun _ => (r ()).2.1, .b fun _ => (r ()).2.2]
def cutD_P (s : ByteArray) (sep : ByteArray) : Prop := s.size < 4294967281
def cutD_D : Det := fun A => match A with
  | [.s s, .s sep] => some (fun _ => cutD_P (s ()) (sep ()), cutD_R fun _ => cutV (s ()) (sep ()))
  | _ => none
theorem cutD_vc (s sep : ByteArray) (hp : s.size < 4294967281) : FnOk Tryd.prog 20 [.s fun _ => s, .s fun _ => sep] [] (outA (cutD_R fun _ => cutV s sep) []) := by
  have fin : outA (cutD_R fun _ => cutV s sep) [] (.tup [.s fun _ => (cutV s sep).1, .s fun _ => (cutV s sep).2.1, .b fun _ => (cutV s sep).2.2]) [] [] := by
    cbv
    repeat' first | (refine Stp.mk ?_; cbv) | (refine Gen.mk fun r hr => ?_; (try simp only [Dat.ok, Dat.dec, Leaf.ok, Leaf.val, Z0, Z1, val_sl, val_nil] at hr); cbv) | exact trivial | rfl | refine Both.mk ?_ ?_ | (refine Imp.mk fun h => ?_; (try dsimp only at h); (try simp only [nc, Int.toNat_natCast, ne_eq, zz] at h); (try simp only [nc] at h)) | refine Ob.mk ?_ ?_ | refine Chk.mk (by kernel_rfl) ?_ | refine Eq'.mk ?_ | (refine AllN.mk fun i hi => ?_; cbv) | (refine AllC.mk fun c hc hcm => ?_; (try dsimp only at hc); cbv) | (refine AllS.mk fun r hr => ?_; (try simp only [Dat.ok, Dat.dec, Leaf.ok, Leaf.val, Z0, Z1, val_sl] at hr); cbv)
  refine fnOk_kit fin fun w M β cp vs hd hA => ?_
  obtain ⟨u, v, rfl, hu, hv⟩ := repL_2 hA
  rw [rep_s hu, rep_s hv]
  obtain ⟨m, hm⟩ := hd.tb.2.1
  refine (Any.strings_Cut Tryd.cutL s sep m w hp hm).mono ?_
  rintro e w' ⟨rfl, n, rfl⟩
  refine ⟨_, rfl, .tup _ _ rfl fun j x hx => ?_, below_drewN n⟩
  match j, hx with
  | 0, hx => cases hx; exact .s _
  | 1, hx => cases hx; exact .s _
  | 2, hx => cases hx; exact .b _
theorem cutD_ok : PcOk Tryd.prog 20 (detPC cutD_D) := det_okA fun A p r h hp0 => by
  unfold cutD_D at h
  split at h
  · rename_i s sep
    cases h
    have hp := hp0
    exact ⟨rfl, FnOk.pre (A' := [.s fun _ => s (), .s fun _ => sep ()]) (cutD_vc (s ()) (sep ()) hp) (.mk (.mk rfl) (.mk (.mk rfl) (trivial)))⟩
  · cases h
def trimV (s p : ByteArray) : ByteArray := ⟨(Lib.trimPrefix s.data.toList p.data.toList).toArray⟩
section
open Go.Shelf
def Tryd.trimL_ren : Go.Shelf.Ren := ⟨fun | 101 => 40 | 208 => 55 | 206 => 70 | n => n, fun | 9 => 9 | 4 => 4 | 3 => 3 | n => n, fun | n => n⟩
theorem Tryd.trimL : Go.Proofs.Lays.n101 Tryd.prog Tryd.trimL_ren := {
  mixed := by kernel_rfl
  f101 := Tryd.func40.trans (congrArg some (by kernel_rfl))
  f206 := Tryd.func70.trans (congrArg some (by kernel_rfl))
  f208 := Tryd.func55.trans (congrArg some (by kernel_rfl))
  t3 := Tryd.underlying3
  a3 := Tryd.isAgg3
  z3 := Tryd.sizeOf3
  v3 := Tryd.zeroValue3
  t4 := Tryd.underlying4
  a4 := Tryd.isAgg4
  z4 := Tryd.sizeOf4
  v4 := Tryd.zeroValue4
  t9 := Tryd.underlying9
  a9 := Tryd.isAgg9
  z9 := Tryd.sizeOf9
  v9 := Tryd.zeroValue9 }
end
def trimC_R (r : Th (ByteArray)) : AV := .s fun _ => (r ())
def trimC_D : Det := fun A => match A with
  | [.s s, .s p] => some (fun _ => True, trimC_R fun _ => trimV (s ()) (p ()))
  | _ => none
theorem trimC_vc (s p : ByteArray) : FnOk Tryd.prog 40 [.s fun _ => s, .s fun _ => p] [] (outA (trimC_R fun _ => trimV s p) []) := by
  have fin : outA (trimC_R fun _ => trimV s p) [] (.s fun _ => trimV s p) [] [] := by
    cbv
    repeat' first | (refine Stp.mk ?_; cbv) | (refine Gen.mk fun r hr => ?_; (try simp only [Dat.ok, Dat.dec, Leaf.ok, Leaf.val, Z0, Z1, val_sl, val_nil] at hr); cbv) | exact trivial | rfl | refine Both.mk ?_ ?_ | (refine Imp.mk fun h => ?_; (try dsimp only at h); (try simp only [nc, Int.toNat_natCast, ne_eq, zz] at h); (try simp only [nc] at h)) | refine Ob.mk ?_ ?_ | refine Chk.mk (by kernel_rfl) ?_ | refine Eq'.mk ?_ | (refine AllN.mk fun i hi => ?_; cbv) | (refine AllC.mk fun c hc hcm => ?_; (try dsimp only at hc); cbv) | (refine AllS.mk fun r hr => ?_; (try simp only [Dat.ok, Dat.dec, Leaf.ok, Leaf.val, Z0, Z1, val_sl] at hr); cbv)
  refine fnOk_kit fin fun w M β cp vs hd hA => ?_
  obtain ⟨u, v, rfl, hu, hv⟩ := repL_2 hA
  rw [rep_s hu, rep_s hv]
  refine (Any.strings_TrimPrefix Tryd.trimL s p w).mono ?_
  rintro e w' ⟨rfl, rfl⟩
  exact ⟨_, rfl, .s _, Below.refl _ _⟩
theorem trimC_ok : PcOk Tryd.prog 40 (detPC trimC_D) := det_okA fun A p r h hp0 => by
  unfold trimC_D at h
  split at h
  · rename_i s p
    cases h
    exact ⟨rfl, FnOk.pre (A' := [.s fun _ => s (), .s fun _ => p ()]) (trimC_vc (s ()) (p ())) (.mk (.mk rfl) (.mk (.mk rfl) (trivial)))⟩
  · cases h
def splitV (s sep : ByteArray) : List ByteArray := Lib.splitB sep 0 (Lib.countB s sep) s
section
open Go.Shelf
def Tryd.splitL_ren : Go.Shelf.Ren := ⟨fun | 146 => 10 | 221 => 27 | 268 => 43 | 138 => 44 | 143 => 29 | 195 => 58 | 197 => 48 | 218 => 59 | 219 => 46 | 260 => 66 | 217 => 61 | 225 => 62 | 224 => 63 | 267 => 64 | 266 => 71 | 314 => 72 | n => n, fun | 9 => 9 | 31 => 33 | 3 => 3 | 4 => 4 | 0 => 0 | 105 => 80 | 21 => 21 | 5 => 5 | 46 => 76 | 119 => 101 | 139 => 104 | 138 => 103 | 146 => 89 | 51 => 88 | n => n, fun | 1 => 0 | 3 => 1 | 4 => 2 | n => n⟩
theorem Tryd.splitL : Go.Proofs.Lays.n146 Tryd.prog Tryd.splitL_ren := {
  mixed := by kernel_rfl
  f138 := Tryd.func44.trans (congrArg some (by kernel_rfl))
  f143 := Tryd.func29.trans (congrArg some (by kernel_rfl))
  f146 := Tryd.func10.trans (congrArg some (by kernel_rfl))
  f195 := Tryd.func58.trans (congrArg some (by kernel_rfl))
  f197 := Tryd.func48.trans (congrArg some (by kernel_rfl))
  f217 := Tryd.func61.trans (congrArg some (by kernel_rfl))
  f218 := Tryd.func59.trans (congrArg some (by kernel_rfl))
  f219 := Tryd.func46.trans (congrArg some (by kernel_rfl))
  f221 := Tryd.func27.trans (congrArg some (by kernel_rfl))
  f224 := Tryd.func63.trans (congrArg some (by kernel_rfl))
  f225 := Tryd.func62.trans (congrArg some (by kernel_rfl))
  f260 := Tryd.func66.trans (congrArg some (by kernel_rfl))
  f266 := Tryd.func71.trans (congrArg some (by kernel_rfl))
  f267 := Tryd.func64.trans (congrArg some (by kernel_rfl))
  f268 := Tryd.func43.trans (congrArg some (by kernel_rfl))
  f314 := Tryd.func72.trans (congrArg some (by kernel_rfl))
  t0 := Tryd.underlying0
  a0 := Tryd.isAgg0
  z0 := Tryd.sizeOf0
  v0 := Tryd.zeroValue0
  t3 := Tryd.underlying3
  a3 := Tryd.isAgg3
  z3 := Tryd.sizeOf3
  v3 := Tryd.zeroValue3
  t4 := Tryd.underlying4
  a4 := Tryd.isAgg4
  z4 := Tryd.sizeOf4
  v4 := Tryd.zeroValue4
  t5 := Tryd.underlying5
  a5 := Tryd.isAgg5
  z5 := Tryd.sizeOf5
  v5 := Tryd.zeroValue5
  t9 := Tryd.underlying9
  a9 := Tryd.isAgg9
  z9 := Tryd.sizeOf9
  v9 := Tryd.zeroValue9
  t21 := Tryd.underlying21
  a21 := Tryd.isAgg21
  z21 := Tryd.sizeOf21
  v21 := Tryd.zeroValue21
  t31 := Tryd.underlying33
  a31 := Tryd.isAgg33
  z31 := Tryd.sizeOf33
  v31 := Tryd.zeroValue33
  t46 := Tryd.underlying76
  a46 := Tryd.isAgg76
  z46 := Tryd.sizeOf76
  v46 := Tryd.zeroValue76
  t51 := Tryd.underlying88
  a51 := Tryd.isAgg88
  z51 := Tryd.sizeOf88
  v51 := Tryd.zeroValue88
  t105 := Tryd.underlying80
  a105 := Tryd.isAgg80
  z105 := Tryd.sizeOf80
  v105 := Tryd.zeroValue80
  t119 := Tryd.underlying101
  a119 := Tryd.isAgg101
  z119 := Tryd.sizeOf101
  t138 := Tryd.underlying103
  a138 := Tryd.isAgg103
  z138 := Tryd.sizeOf103
  v138 := Tryd.zeroValue103
  t139 := Tryd.underlying104
  a139 := Tryd.isAgg104
  z139 := Tryd.sizeOf104
  v139 := Tryd.zeroValue104
  t146 := Tryd.underlying89
  a146 := Tryd.isAgg89
  z146 := Tryd.sizeOf89
  v146 := Tryd.zeroValue89
  g1 := by kernel_rfl
  g3 := by kernel_rfl
  g4 := by kernel_rfl }
end
def splitC_R (r : Th ((List ByteArray))) : AV := .own 0 fun _ => (r ()).length
def splitC_H (r : Th ((List ByteArray))) : Hp := [vecO 9 fun _ => (r ())]
def splitC_P (s : ByteArray) (sep : ByteArray) : Prop := s.size < 4294967281 ∧ 1 ≤ sep.size
def splitC_C : PC := fun A K => match A with
  | [.s s, .s sep] => Ob (fun _ => splitC_P (s ()) (sep ())) (Gen (α := (List ByteArray)) (fun _ => splitV (s ()) (sep ())) fun r => K (splitC_R fun _ => r) (splitC_H fun _ => r))
  | _ => Bad 1002
theorem splitC_vc (s sep : ByteArray) (hp : s.size < 4294967281 ∧ 1 ≤ sep.size) : FnOk Tryd.prog 10 [.s fun _ => s, .s fun _ => sep] [] (outA (splitC_R fun _ => splitV s sep) (splitC_H fun _ => splitV s sep)) := by
  have fin : outA (splitC_R fun _ => splitV s sep) (splitC_H fun _ => splitV s sep) (.own 0 fun _ => (splitV s sep).length) [vecO 9 fun _ => splitV s sep] [] := by
    cbv
    repeat' first | (refine Stp.mk ?_; cbv) | (refine Gen.mk fun r hr => ?_; (try simp only [Dat.ok, Dat.dec, Leaf.ok, Leaf.val, Z0, Z1, val_sl, val_nil] at hr); cbv) | exact trivial | rfl | refine Both.mk ?_ ?_ | (refine Imp.mk fun h => ?_; (try dsimp only at h); (try simp only [nc, Int.toNat_natCast, ne_eq, zz] at h); (try simp only [nc] at h)) | refine Ob.mk ?_ ?_ | refine Chk.mk (by kernel_rfl) ?_ | refine Eq'.mk ?_ | (refine AllN.mk fun i hi => ?_; cbv) | (refine AllC.mk fun c hc hcm => ?_; (try dsimp only at hc); cbv) | (refine AllS.mk fun r hr => ?_; (try simp only [Dat.ok, Dat.dec, Leaf.ok, Leaf.val, Z0, Z1, val_sl] at hr); cbv)
  refine fnOk_kitO fin fun w M β cp vs hd hA => ?_
  obtain ⟨u, v, rfl, hu, hv⟩ := repL_2 hA
  rw [rep_s hu, rep_s hv]
  obtain ⟨m, hm⟩ := hd.tb.2.1
  refine (Any.strings_Split Tryd.splitL (by kernel_rfl) s sep m w hp.1 hm hp.2).mono ?_
  rintro e w' ⟨rfl, rfl⟩
  have e1 : Dat.sz ByteArray = 1 := rfl
  have hl : (splitV s sep).length = Lib.countB s sep + 1 := Lib.splitB_all sep hp.2 0 _ s rfl
  have hb := Lib.countB_le sep hp.2 s.size s (Nat.le_refl _)
  have hc : ∀ i, i < (splitV s sep).length → (((splitV s sep).map Value.string).toArray).getD i undef = .string ((splitV s sep).getD i Dat.d0) := fun i hi => by
    simp [Array.getD, hi, List.getD_eq_getElem?_getD]
  refine ⟨w.heap.size, ((splitV s sep).map Value.string).toArray, by rw [hl], Nat.le_refl _, ?_, (Below.refl _ _).alloc (Nat.le_refl _) _, by (rw [e1]; simp), ?_, fun k hk => ?_, fun _ _ => rfl, fun M' i j x hi hx => ?_⟩
  · show (w.heap.push _)[w.heap.size]? = _
    rw [Array.getElem?_push_size]; rfl
  · show (splitV s sep).length ≤ maxLen
    unfold maxLen; omega
  · rw [e1, Nat.mul_one] at hk; rw [hc k hk]; rfl
  · match j, hx with
    | 0, hx =>
      cases hx
      rw [e1, show i * 1 + 0 = i by omega, hc i hi]
      exact .s _
theorem splitC_ok : PcOk Tryd.prog 10 (splitC_C) := fun A K h => by
  unfold splitC_C at h
  split at h
  · rename_i s sep
    cases h with
    | mk h1 h2 =>
      have hp := h1
      refine FnOk.pre ?_ (A' := [.s fun _ => s (), .s fun _ => sep ()]) (.mk (.mk rfl) (.mk (.mk rfl) (trivial)))
      exact FnOk.out (K := fun r H _ => K r H) (splitC_vc (s ()) (sep ()) hp) rfl h2.out
  · cases h
def splitF_R (r : Th ((List ByteArray))) : AV := Leaf.av fun _ => (r ())
def splitF_D : Det := fun A => match A with
  | [.s s, .s sep] => some (fun _ => splitC_P (s ()) (sep ()), splitF_R fun _ => splitV (s ()) (sep ()))
  | _ => none
theorem splitF_ok : PcOk Tryd.prog 10 (detPC splitF_D) := det_okF fun A p r h hp0 => by
  unfold splitF_D at h
  split at h
  · rename_i s sep
    cases h
    have hp := hp0
    exact FnOk.froz (FnOk.pre (A' := [.s fun _ => s (), .s fun _ => sep ()]) (splitC_vc (s ()) (sep ()) hp) (.mk (.mk rfl) (.mk (.mk rfl) (trivial)))) rfl (q := _) (d := _) rfl (by intro p hp; repeat (first | (cases hp; done) | (rcases List.mem_cons.1 hp with rfl | hp; · exact Nat.le_refl _))) rfl ⟨rfl, rfl⟩
  · cases h
theorem splitF_okF : ∀ A p r, splitF_D A = some (p, r) → p () → FrOk Tryd.prog 10 A r := fun A p r h hp0 => by
  unfold splitF_D at h
  split at h
  · rename_i s sep
    cases h
    have hp := hp0
    exact FnOk.fresh (A := [.s s, .s sep]) (FnOk.pre (A' := [.s fun _ => s (), .s fun _ => sep ()]) (splitC_vc (s ()) (sep ()) hp) (.mk (.mk rfl) (.mk (.mk rfl) (trivial)))) rfl (q := _) (d := _) rfl (by intro p hp; repeat (first | (cases hp; done) | (rcases List.mem_cons.1 hp with rfl | hp; · exact Nat.le_refl _))) rfl rfl ⟨.mk fun _ _ => rfl, trivial⟩
  · cases h
def joinV (l : List ByteArray) (sep : ByteArray) : ByteArray := ⟨(Lib.join (l.map (·.data.toList)) sep.data.toList).toArray⟩
section
open Go.Shelf
def Tryd.joinL_ren : Go.Shelf.Ren := ⟨fun | 156 => 11 | 165 => 28 | 166 => 17 | 169 => 19 | 240 => 34 | 241 => 45 | 276 => 52 | 277 => 60 | n => n, fun | 31 => 33 | 9 => 9 | 3 => 3 | 4 => 4 | 0 => 0 | 20 => 20 | 72 => 46 | 76 => 49 | 70 => 43 | 37 => 44 | 75 => 48 | 127 => 72 | 164 => 84 | 5 => 5 | 80 => 54 | n => n, fun | n => n⟩
theorem Tryd.joinL : Go.Proofs.Lays.n156 Tryd.prog Tryd.joinL_ren := {
  mixed := by kernel_rfl
  f156 := Tryd.func11.trans (congrArg some (by kernel_rfl))
  f165 := Tryd.func28.trans (congrArg some (by kernel_rfl))
  f166 := Tryd.func17.trans (congrArg some (by kernel_rfl))
  f169 := Tryd.func19.trans (congrArg some (by kernel_rfl))
  f240 := Tryd.func34.trans (congrArg some (by kernel_rfl))
  f241 := Tryd.func45.trans (congrArg some (by kernel_rfl))
  f276 := Tryd.func52.trans (congrArg some (by kernel_rfl))
  f277 := Tryd.func60.trans (congrArg some (by kernel_rfl))
  t0 := Tryd.underlying0
  a0 := Tryd.isAgg0
  z0 := Tryd.sizeOf0
  v0 := Tryd.zeroValue0
  t3 := Tryd.underlying3
  a3 := Tryd.isAgg3
  z3 := Tryd.sizeOf3
  v3 := Tryd.zeroValue3
  t4 := Tryd.underlying4
  a4 := Tryd.isAgg4
  z4 := Tryd.sizeOf4
  v4 := Tryd.zeroValue4
  t9 := Tryd.underlying9
  a9 := Tryd.isAgg9
  z9 := Tryd.sizeOf9
  v9 := Tryd.zeroValue9
  t20 := Tryd.underlying20
  a20 := Tryd.isAgg20
  z20 := Tryd.sizeOf20
  v20 := Tryd.zeroValue20
  t31 := Tryd.underlying33
  a31 := Tryd.isAgg33
  z31 := Tryd.sizeOf33
  v31 := Tryd.zeroValue33
  t37 := Tryd.underlying44
  a37 := Tryd.isAgg44
  z37 := Tryd.sizeOf44
  v37 := Tryd.zeroValue44
  t70 := Tryd.underlying43
  a70 := Tryd.isAgg43
  z70 := Tryd.sizeOf43
  v70 := Tryd.zeroValue43
  t72 := Tryd.underlying46
  a72 := Tryd.isAgg46
  z72 := Tryd.sizeOf46
  v72 := Tryd.zeroValue46
  t75 := Tryd.underlying48
  a75 := Tryd.isAgg48
  z75 := Tryd.sizeOf48
  v75 := Tryd.zeroValue48
  t76 := Tryd.underlying49
  a76 := Tryd.isAgg49
  z76 := Tryd.sizeOf49
  v76 := Tryd.zeroValue49
  t127 := Tryd.underlying72
  a127 := Tryd.isAgg72
  z127 := Tryd.sizeOf72
  v127 := Tryd.zeroValue72
  t164 := Tryd.underlying84
  a164 := Tryd.isAgg84
  z164 := Tryd.sizeOf84
  v164 := Tryd.zeroValue84 }
end
theorem Tryd.joinX : Builder.Extra Tryd.prog Tryd.joinL_ren where
  sizeBuilder := by kernel_rfl
  liesBuilder := by kernel_rfl
  t5 := Tryd.underlying5
  a5 := Tryd.isAgg5
  z5 := Tryd.sizeOf5
  v5 := Tryd.zeroValue5
  infoByte := by kernel_rfl
  cellsByte := by kernel_rfl
  sizeByte := by kernel_rfl
  neB5 := show _ by decide
def joinC_R (r : Th (ByteArray)) : AV := .s fun _ => (r ())
def joinC_P (l : (List ByteArray)) (sep : ByteArray) : Prop := l.length ≤ 1048576 ∧ (joinV l sep).size ≤ 140737488355328
def joinC_D : Det := fun A => match A with
  | [l, .s sep] => some (fun _ => Leaf.ok (List ByteArray) l ∧ joinC_P (Leaf.val l) (sep ()), joinC_R fun _ => joinV (Leaf.val l) (sep ()))
  | _ => none
theorem joinC_vc (l : List ByteArray) (sep : ByteArray) (hp : l.length ≤ 1048576 ∧ (joinV l sep).size ≤ 140737488355328) : FnOk Tryd.prog 11 [.sl 1 (fun _ => l.length) fun i => Dat.enc fun _ => l.getD (i ()) Dat.d0, .s fun _ => sep] [] (outA (joinC_R fun _ => joinV l sep) []) := by
  have fin : outA (joinC_R fun _ => joinV l sep) [] (.s fun _ => joinV l sep) [] [] := by
    cbv
    repeat' first | (refine Stp.mk ?_; cbv) | (refine Gen.mk fun r hr => ?_; (try simp only [Dat.ok, Dat.dec, Leaf.ok, Leaf.val, Z0, Z1, val_sl, val_nil] at hr); cbv) | exact trivial | rfl | refine Both.mk ?_ ?_ | (refine Imp.mk fun h => ?_; (try dsimp only at h); (try simp only [nc, Int.toNat_natCast, ne_eq, zz] at h); (try simp only [nc] at h)) | refine Ob.mk ?_ ?_ | refine Chk.mk (by kernel_rfl) ?_ | refine Eq'.mk ?_ | (refine AllN.mk fun i hi => ?_; cbv) | (refine AllC.mk fun c hc hcm => ?_; (try dsimp only at hc); cbv) | (refine AllS.mk fun r hr => ?_; (try simp only [Dat.ok, Dat.dec, Leaf.ok, Leaf.val, Z0, Z1, val_sl] at hr); cbv)
  refine fnOk_kit fin fun w M β cp vs hd hA => ?_
  obtain ⟨u, v, rfl, hu, hv⟩ := repL_2 hA
  rw [rep_s hv]
  obtain ⟨a, c, rfl, hn, hc, h⟩ := rep_sl hu
  by_cases h0 : l = []
  · subst h0
    refine (Any.strings_Join_none Tryd.joinL Tryd.joinX a c sep w).mono ?_
    rintro e w' ⟨rfl, rfl⟩
    exact ⟨_, rfl, .s _, Below.refl _ _⟩
  · have hl : 0 < l.length := List.length_pos_iff.2 h0
    obtain ⟨ad, q, rfl, -, -, hlen, hcell, -, hr⟩ := h hl
    have hq : ∀ i, i < l.length → w.cell? (ad.add i) = some (.string (l.getD i Dat.d0)) := fun i hi => by
      have h1 := hcell i 0 hi (by decide)
      have h2 := hr i 0 _ hi rfl
      rw [show i * 1 + 0 = i by omega] at h1
      rw [h1]
      generalize q i 0 = z at h2
      cases h2
      rfl
    obtain ⟨b, o, sp⟩ := ad
    cases sp with
    | some sp =>
      exfalso
      have := hq 0 hl
      simp [Addr.add, World.cell?] at this
      split at this <;> cases this
    | none =>
      refine (Any.strings_Join Tryd.joinL Tryd.joinX b o c l sep w (fun j x hx => ?_) ?_ (by omega) hn ?_).mono ?_
      · have hj := (List.getElem?_eq_some_iff.1 hx).1
        have := hq j hj
        rw [List.getD_eq_getElem?_getD, hx] at this
        rw [show (⟨b, o + j, none⟩ : Addr) = Addr.add ⟨b, o, none⟩ j by unfold Addr.add; split <;> simp_all]
        exact this
      · have := block_lt (hq 0 hl)
        exact this
      · have := hp.2
        simpa [joinV, ByteArray.size] using this
      · rintro e w' ⟨rfl, hb⟩
        exact ⟨_, rfl, .s _, hb⟩
theorem joinC_ok : PcOk Tryd.prog 11 (detPC joinC_D) := det_okA fun A p r h hp0 => by
  unfold joinC_D at h
  split at h
  · rename_i l sep
    cases h
    obtain ⟨g0, hp⟩ := hp0
    exact ⟨rfl, FnOk.pre (A' := [Leaf.av fun _ => (Leaf.val l : (List ByteArray)), .s fun _ => sep ()]) (joinC_vc (Leaf.val l) (sep ()) hp) (.mk (Leaf.hle _ g0) (.mk (.mk rfl) (trivial)))⟩
  · cases h
section
open Go.Shelf
def Tryd.containsL_ren : Go.Shelf.Ren := ⟨fun | 144 => 12 | 143 => 29 | 219 => 46 | 217 => 61 | 225 => 62 | 224 => 63 | 267 => 64 | 266 => 71 | 314 => 72 | n => n, fun | 9 => 9 | 4 => 4 | 3 => 3 | 5 => 5 | 46 => 76 | 146 => 89 | 51 => 88 | n => n, fun | 1 => 0 | n => n⟩
theorem Tryd.containsL : Go.Proofs.Lays.n144 Tryd.prog Tryd.containsL_ren := {
  mixed := by kernel_rfl
  f143 := Tryd.func29.trans (congrArg some (by kernel_rfl))
  f144 := Tryd.func12.trans (congrArg some (by kernel_rfl))
  f217 := Tryd.func61.trans (congrArg some (by kernel_rfl))
  f219 := Tryd.func46.trans (congrArg some (by kernel_rfl))
  f224 := Tryd.func63.trans (congrArg some (by kernel_rfl))
  f225 := Tryd.func62.trans (congrArg some (by kernel_rfl))
  f266 := Tryd.func71.trans (congrArg some (by kernel_rfl))
  f267 := Tryd.func64.trans (congrArg some (by kernel_rfl))
  f314 := Tryd.func72.trans (congrArg some (by kernel_rfl))
  t3 := Tryd.underlying3
  a3 := Tryd.isAgg3
  z3 := Tryd.sizeOf3
  v3 := Tryd.zeroValue3
  t4 := Tryd.underlying4
  a4 := Tryd.isAgg4
  z4 := Tryd.sizeOf4
  v4 := Tryd.zeroValue4
  t5 := Tryd.underlying5
  a5 := Tryd.isAgg5
  z5 := Tryd.sizeOf5
  v5 := Tryd.zeroValue5
  t9 := Tryd.underlying9
  a9 := Tryd.isAgg9
  z9 := Tryd.sizeOf9
  v9 := Tryd.zeroValue9
  t46 := Tryd.underlying76
  a46 := Tryd.isAgg76
  z46 := Tryd.sizeOf76
  v46 := Tryd.zeroValue76
  t51 := Tryd.underlying88
  a51 := Tryd.isAgg88
  z51 := Tryd.sizeOf88
  v51 := Tryd.zeroValue88
  t146 := Tryd.underlying89
  a146 := Tryd.isAgg89
  z146 := Tryd.sizeOf89
  v146 := Tryd.zeroValue89
  g1 := by kernel_rfl }
end
def containsC_R (r : Th (Bool)) : AV := .b fun _ => (r ())
def containsC_S (s : ByteArray) (sub : ByteArray) : Bool := Lib.contains s.data.toList sub.data.toList
def containsC_P (s : ByteArray) (sub : ByteArray) : Prop := s.size < 4294967281
def containsC_D : Det := fun A => match A with
  | [.s s, .s sub] => some (fun _ => containsC_P (s ()) (sub ()), containsC_R fun _ => containsC_S (s ()) (sub ()))
  | _ => none
theorem containsC_vc (s sub : ByteArray) (hp : s.size < 4294967281) : FnOk Tryd.prog 12 [.s fun _ => s, .s fun _ => sub] [] (outA (containsC_R fun _ => Lib.contains s.data.toList sub.data.toList) []) := by
  have fin : outA (containsC_R fun _ => Lib.contains s.data.toList sub.data.toList) [] (.b fun _ => Lib.contains s.data.toList sub.data.toList) [] [] := by
    cbv
    repeat' first | (refine Stp.mk ?_; cbv) | (refine Gen.mk fun r hr => ?_; (try simp only [Dat.ok, Dat.dec, Leaf.ok, Leaf.val, Z0, Z1, val_sl, val_nil] at hr); cbv) | exact trivial | rfl | refine Both.mk ?_ ?_ | (refine Imp.mk fun h => ?_; (try dsimp only at h); (try simp only [nc, Int.toNat_natCast, ne_eq, zz] at h); (try simp only [nc] at h)) | refine Ob.mk ?_ ?_ | refine Chk.mk (by kernel_rfl) ?_ | refine Eq'.mk ?_ | (refine AllN.mk fun i hi => ?_; cbv) | (refine AllC.mk fun c hc hcm => ?_; (try dsimp only at hc); cbv) | (refine AllS.mk fun r hr => ?_; (try simp only [Dat.ok, Dat.dec, Leaf.ok, Leaf.val, Z0, Z1, val_sl] at hr); cbv)
  refine fnOk_kit fin fun w M β cp vs hd hA => ?_
  obtain ⟨u, v, rfl, hu, hv⟩ := repL_2 hA
  rw [rep_s hu, rep_s hv]
  obtain ⟨m, hm⟩ := hd.tb.2.1
  refine (Any.strings_Contains Tryd.containsL s sub m w hp hm).mono ?_
  rintro e w' ⟨rfl, rfl⟩
  exact ⟨_, rfl, .b _, Below.refl _ _⟩
theorem containsC_ok : PcOk Tryd.prog 12 (detPC containsC_D) := det_okA fun A p r h hp0 => by
  unfold containsC_D at h
  split at h
  · rename_i s sub
    cases h
    have hp := hp0
    exact ⟨rfl, FnOk.pre (A' := [.s fun _ => s (), .s fun _ => sub ()]) (containsC_vc (s ()) (sub ()) hp) (.mk (.mk rfl) (.mk (.mk rfl) (trivial)))⟩
  · cases h

end Go.Proofs.YtebiaihhpflpgaaDoor
