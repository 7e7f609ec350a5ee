/- Packages strings and strconv by the kit's theorems. -/
import Derived.Test.YtnjngpjkhddnfaaGreatDoorTxtP
import Derived.Test.YtnjngpjkhddnfaaGreatDoorAbsG4
import Derived.Shelf.Strings.Split
import Derived.Shelf.Strings.Search3
import Derived.Shelf.Strings.Cut
import Derived.Shelf.Strings.Prefix
import Derived.Shelf.Strings.OnBuilder
import Derived.Shelf.Strconv.Itoa3
import Derived.Shelf.Strconv.ErrVarParseInt
import Derived.Lib.ItoaLen
import Derived.Lib.SmallJoins
import Derived.Ground.NamesProg
set_option linter.all false
namespace Go.Proofs.YtnjngpjkhddnfaaGreatDoor
open Go Go.Abs

open Go.RowKit
section
open Go.Shelf
def Tryz.itoaL_ren : Go.Shelf.Ren := ⟨fun | 171 => 51 | 243 => 73 | 246 => 96 | 283 => 128 | 284 => 129 | 285 => 130 | 286 => 131 | 129 => 92 | 317 => 147 | 318 => 148 | 319 => 149 | 320 => 150 | 337 => 155 | 338 => 156 | n => n, fun | 3 => 3 | 9 => 9 | 2 => 2 | 4 => 4 | 171 => 175 | 0 => 0 | 53 => 128 | 37 => 81 | 5 => 5 | 173 => 177 | 212 => 198 | 51 => 149 | 20 => 20 | 213 => 199 | 46 => 120 | 232 => 209 | 233 => 210 | n => n, fun | 17 => 3 | 18 => 6 | 19 => 7 | n => n⟩
theorem Tryz.itoaL : Go.Proofs.LaysM.n171 Tryz.prog Tryz.itoaL_ren := {
 mixed := by kernel_rfl
 f129 := Tryz.func92.trans (congrArg some (by kernel_rfl))
 f171 := Tryz.func51.trans (congrArg some (by kernel_rfl))
 f243 := Tryz.func73.trans (congrArg some (by kernel_rfl))
 f246 := Tryz.func96.trans (congrArg some (by kernel_rfl))
 f283 := Tryz.func128.trans (congrArg some (by kernel_rfl))
 f284 := Tryz.func129.trans (congrArg some (by kernel_rfl))
 f285 := Tryz.func130.trans (congrArg some (by kernel_rfl))
 f286 := Tryz.func131.trans (congrArg some (by kernel_rfl))
 f317 := Tryz.func147.trans (congrArg some (by kernel_rfl))
 f318 := Tryz.func148.trans (congrArg some (by kernel_rfl))
 f319 := Tryz.func149.trans (congrArg some (by kernel_rfl))
 f320 := Tryz.func150.trans (congrArg some (by kernel_rfl))
 f337 := Tryz.func155.trans (congrArg some (by kernel_rfl))
 f338 := Tryz.func156.trans (congrArg some (by kernel_rfl))
 t0 := Tryz.underlying0
 a0 := Tryz.isAgg0
 z0 := Tryz.sizeOf0
 v0 := Tryz.zeroValue0
 t2 := Tryz.underlying2
 a2 := Tryz.isAgg2
 z2 := Tryz.sizeOf2
 v2 := Tryz.zeroValue2
 t3 := Tryz.underlying3
 a3 := Tryz.isAgg3
 z3 := Tryz.sizeOf3
 v3 := Tryz.zeroValue3
 t4 := Tryz.underlying4
 a4 := Tryz.isAgg4
 z4 := Tryz.sizeOf4
 v4 := Tryz.zeroValue4
 t5 := Tryz.underlying5
 a5 := Tryz.isAgg5
 z5 := Tryz.sizeOf5
 v5 := Tryz.zeroValue5
 t9 := Tryz.underlying9
 a9 := Tryz.isAgg9
 z9 := Tryz.sizeOf9
 v9 := Tryz.zeroValue9
 t20 := Tryz.underlying20
 a20 := Tryz.isAgg20
 z20 := Tryz.sizeOf20
 v20 := Tryz.zeroValue20
 t37 := Tryz.underlying81
 a37 := Tryz.isAgg81
 z37 := Tryz.sizeOf81
 v37 := Tryz.zeroValue81
 t46 := Tryz.underlying120
 a46 := Tryz.isAgg120
 z46 := Tryz.sizeOf120
 v46 := Tryz.zeroValue120
 t51 := Tryz.underlying149
 a51 := Tryz.isAgg149
 z51 := Tryz.sizeOf149
 v51 := Tryz.zeroValue149
 t53 := Tryz.underlying128
 a53 := Tryz.isAgg128
 z53 := Tryz.sizeOf128
 v53 := Tryz.zeroValue128
 t171 := Tryz.underlying175
 a171 := Tryz.isAgg175
 z171 := Tryz.sizeOf175
 v171 := Tryz.zeroValue175
 t173 := Tryz.underlying177
 a173 := Tryz.isAgg177
 z173 := Tryz.sizeOf177
 v173 := Tryz.zeroValue177
 t212 := Tryz.underlying198
 a212 := Tryz.isAgg198
 z212 := Tryz.sizeOf198
 v212 := Tryz.zeroValue198
 t213 := Tryz.underlying199
 a213 := Tryz.isAgg199
 z213 := Tryz.sizeOf199
 t232 := Tryz.underlying209
 a232 := Tryz.isAgg209
 z232 := Tryz.sizeOf209
 v232 := Tryz.zeroValue209
 t233 := Tryz.underlying210
 a233 := Tryz.isAgg210
 z233 := Tryz.sizeOf210
 v233 := Tryz.zeroValue210
 g17 := by kernel_rfl
 g18 := by kernel_rfl
 g19 := by kernel_rfl
 i0 := by kernel_rfl
 i2 := by kernel_rfl
 i3 := by kernel_rfl
 i4 := by kernel_rfl
 i5 := by kernel_rfl
 i9 := by kernel_rfl
 i20 := by kernel_rfl
 i37 := by kernel_rfl
 i46 := by kernel_rfl
 i51 := by kernel_rfl
 i53 := by kernel_rfl
 i171 := by kernel_rfl
 i173 := by kernel_rfl
 i212 := by kernel_rfl
 i232 := by kernel_rfl
 i233 := by kernel_rfl
 m17 := by kernel_rfl
 m18 := by kernel_rfl
 m19 := by kernel_rfl }
end
def splitV (s sep : ByteArray) : List ByteArray := Lib.splitB sep 0 (Lib.countB s sep) s
section
open Go.Shelf
def Tryz.splitL_ren : Go.Shelf.Ren := ⟨fun | 146 => 19 | 221 => 30 | 268 => 54 | 138 => 55 | 143 => 56 | 195 => 76 | 197 => 77 | 218 => 78 | 219 => 79 | 260 => 100 | 217 => 101 | 225 => 102 | 224 => 103 | 267 => 104 | 266 => 138 | 314 => 139 | n => n, fun | 9 => 9 | 31 => 57 | 3 => 3 | 4 => 4 | 0 => 0 | 105 => 133 | 21 => 21 | 5 => 5 | 46 => 120 | 119 => 184 | 139 => 187 | 138 => 186 | 146 => 188 | 51 => 149 | n => n, fun | 1 => 0 | 3 => 1 | 4 => 2 | n => n⟩
theorem Tryz.splitL : Go.Proofs.Lays.n146 Tryz.prog Tryz.splitL_ren := {
 mixed := by kernel_rfl
 f138 := Tryz.func55.trans (congrArg some (by kernel_rfl))
 f143 := Tryz.func56.trans (congrArg some (by kernel_rfl))
 f146 := Tryz.func19.trans (congrArg some (by kernel_rfl))
 f195 := Tryz.func76.trans (congrArg some (by kernel_rfl))
 f197 := Tryz.func77.trans (congrArg some (by kernel_rfl))
 f217 := Tryz.func101.trans (congrArg some (by kernel_rfl))
 f218 := Tryz.func78.trans (congrArg some (by kernel_rfl))
 f219 := Tryz.func79.trans (congrArg some (by kernel_rfl))
 f221 := Tryz.func30.trans (congrArg some (by kernel_rfl))
 f224 := Tryz.func103.trans (congrArg some (by kernel_rfl))
 f225 := Tryz.func102.trans (congrArg some (by kernel_rfl))
 f260 := Tryz.func100.trans (congrArg some (by kernel_rfl))
 f266 := Tryz.func138.trans (congrArg some (by kernel_rfl))
 f267 := Tryz.func104.trans (congrArg some (by kernel_rfl))
 f268 := Tryz.func54.trans (congrArg some (by kernel_rfl))
 f314 := Tryz.func139.trans (congrArg some (by kernel_rfl))
 t0 := Tryz.underlying0
 a0 := Tryz.isAgg0
 z0 := Tryz.sizeOf0
 v0 := Tryz.zeroValue0
 t3 := Tryz.underlying3
 a3 := Tryz.isAgg3
 z3 := Tryz.sizeOf3
 v3 := Tryz.zeroValue3
 t4 := Tryz.underlying4
 a4 := Tryz.isAgg4
 z4 := Tryz.sizeOf4
 v4 := Tryz.zeroValue4
 t5 := Tryz.underlying5
 a5 := Tryz.isAgg5
 z5 := Tryz.sizeOf5
 v5 := Tryz.zeroValue5
 t9 := Tryz.underlying9
 a9 := Tryz.isAgg9
 z9 := Tryz.sizeOf9
 v9 := Tryz.zeroValue9
 t21 := Tryz.underlying21
 a21 := Tryz.isAgg21
 z21 := Tryz.sizeOf21
 v21 := Tryz.zeroValue21
 t31 := Tryz.underlying57
 a31 := Tryz.isAgg57
 z31 := Tryz.sizeOf57
 v31 := Tryz.zeroValue57
 t46 := Tryz.underlying120
 a46 := Tryz.isAgg120
 z46 := Tryz.sizeOf120
 v46 := Tryz.zeroValue120
 t51 := Tryz.underlying149
 a51 := Tryz.isAgg149
 z51 := Tryz.sizeOf149
 v51 := Tryz.zeroValue149
 t105 := Tryz.underlying133
 a105 := Tryz.isAgg133
 z105 := Tryz.sizeOf133
 v105 := Tryz.zeroValue133
 t119 := Tryz.underlying184
 a119 := Tryz.isAgg184
 z119 := Tryz.sizeOf184
 t138 := Tryz.underlying186
 a138 := Tryz.isAgg186
 z138 := Tryz.sizeOf186
 v138 := Tryz.zeroValue186
 t139 := Tryz.underlying187
 a139 := Tryz.isAgg187
 z139 := Tryz.sizeOf187
 v139 := Tryz.zeroValue187
 t146 := Tryz.underlying188
 a146 := Tryz.isAgg188
 z146 := Tryz.sizeOf188
 v146 := Tryz.zeroValue188
 g1 := by kernel_rfl
 g3 := by kernel_rfl
 g4 := by kernel_rfl }
end
def splitC_R (r : Th ((List ByteArray))) : AV := .own 0 fun _ => (r ()).length
def splitC_H (r : Th ((List ByteArray))) : Hp := [vecO 9 fun _ => (r ())]
def splitC_P (s : ByteArray) (sep : ByteArray) : Prop := s.size < 4294967281 ∧ 1 ≤ sep.size
def splitC_C : PC := fun A K => match A with
 | [.s s, .s sep] => Ob (fun _ => splitC_P (s ()) (sep ())) (Gen (α := (List ByteArray)) (fun _ => splitV (s ()) (sep ())) fun r => K (splitC_R fun _ => r) (splitC_H fun _ => r))
 | _ => Bad 1002
theorem splitC_vc (s sep : ByteArray) (hp : s.size < 4294967281 ∧ 1 ≤ sep.size) : FnOk Tryz.prog 19 [.s fun _ => s, .s fun _ => sep] [] (outA (splitC_R fun _ => splitV s sep) (splitC_H fun _ => splitV s sep)) := by
 have fin : outA (splitC_R fun _ => splitV s sep) (splitC_H fun _ => splitV s sep) (.own 0 fun _ => (splitV s sep).length) [vecO 9 fun _ => splitV s sep] [] := by
   cbv
   repeat' first | (refine Stp.mk ?_; cbv) | (refine Gen.mk fun r hr => ?_; (try simp only [Dat.ok, Dat.dec, Leaf.ok, Leaf.val, Z0, Z1, Z2, Z3, Z4, Z5, Z6, Z7, val_sl, val_nil] at hr); cbv) | exact trivial | rfl | refine Both.mk ?_ ?_ | (refine Imp.mk fun h => ?_; (try dsimp only at h); (try simp only [nc, Int.toNat_natCast, ne_eq, zz] at h); (try simp only [nc] at h)) | refine Ob.mk ?_ ?_ | refine Chk.mk (by kernel_rfl) ?_ | refine Eq'.mk ?_ | (refine AllN.mk fun i hi => ?_; cbv) | (refine AllC.mk fun c hc hcm => ?_; (try dsimp only at hc); cbv) | (refine AllS.mk fun r hr => ?_; (try simp only [Dat.ok, Dat.dec, Leaf.ok, Leaf.val, Z0, Z1, Z2, Z3, Z4, Z5, Z6, Z7, val_sl] at hr); cbv)
 refine fnOk_kitO fin fun w M β cp vs hd hA => ?_
 obtain ⟨u, v, rfl, hu, hv⟩ := repL_2 hA
 rw [rep_s hu, rep_s hv]
 obtain ⟨m, hm⟩ := hd.tb.2.1
 refine (Any.strings_Split Tryz.splitL (by kernel_rfl) s sep m w hp.1 hm hp.2).mono ?_
 rintro e w' ⟨rfl, rfl⟩
 have e1 : Dat.sz ByteArray = 1 := rfl
 have hl : (splitV s sep).length = Lib.countB s sep + 1 := Lib.splitB_all sep hp.2 0 _ s rfl
 have hb := Lib.countB_le sep hp.2 s.size s (Nat.le_refl _)
 have hc : ∀ i, i < (splitV s sep).length → (((splitV s sep).map Value.string).toArray).getD i undef = .string ((splitV s sep).getD i Dat.d0) := fun i hi => by
   simp [Array.getD, hi, List.getD_eq_getElem?_getD]
 refine ⟨w.heap.size, ((splitV s sep).map Value.string).toArray, by rw [hl], Nat.le_refl _, ?_, (Below.refl _ _).alloc (Nat.le_refl _) _, by (rw [e1]; simp), ?_, fun k hk => ?_, fun _ _ => rfl, fun M' i j x hi hx => ?_⟩
 · show (w.heap.push _)[w.heap.size]? = _
   rw [Array.getElem?_push_size]; rfl
 · show (splitV s sep).length ≤ maxLen
   unfold maxLen; omega
 · rw [e1, Nat.mul_one] at hk; rw [hc k hk]; rfl
 · match j, hx with
   | 0, hx =>
     cases hx
     rw [e1, show i * 1 + 0 = i by omega, hc i hi]
     exact .s _
theorem splitC_ok : PcOk Tryz.prog 19 (splitC_C) := fun A K h => by
 unfold splitC_C at h
 split at h
 · rename_i s sep
   cases h with
   | mk h1 h2 =>
     have hp := h1
     refine FnOk.pre ?_ (A' := [.s fun _ => s (), .s fun _ => sep ()]) (.mk (.mk rfl) (.mk (.mk rfl) (trivial)))
     exact FnOk.out (K := fun r H _ => K r H) (splitC_vc (s ()) (sep ()) hp) rfl h2.out
 · cases h
section
open Go.Shelf
end

end Go.Proofs.YtnjngpjkhddnfaaGreatDoor
