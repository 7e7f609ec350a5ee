/- strconv.Itoa by the kit's theorem; pair.Text. -/
import Derived.Test.YtddkjgdfjkklcaaDoorPairQ
import Derived.Shelf.Strconv.Itoa3
import Derived.Lib.ItoaLen
import Derived.Ground.NamesProg
set_option linter.all false
namespace Go.Proofs.YtddkjgdfjkklcaaDoor
open Go Go.Abs

section
open Go.Shelf
def Tryd.itoaL_ren : Go.Shelf.Ren := ⟨fun | 171 => 39 | 243 => 49 | 246 => 54 | 283 => 60 | 284 => 61 | 285 => 62 | 286 => 63 | 129 => 66 | 317 => 65 | 318 => 67 | 319 => 68 | 320 => 69 | 337 => 70 | 338 => 71 | n => n, fun | 3 => 3 | 9 => 9 | 2 => 2 | 4 => 4 | 171 => 106 | 0 => 0 | 53 => 107 | 37 => 110 | 5 => 5 | 173 => 111 | 212 => 116 | 51 => 117 | 20 => 20 | 213 => 118 | 46 => 119 | 232 => 122 | 233 => 123 | n => n, fun | 17 => 0 | 18 => 1 | 19 => 2 | n => n⟩
theorem Tryd.itoaL : Go.Proofs.LaysM.n171 Tryd.prog Tryd.itoaL_ren := {
  mixed := by kernel_rfl
  f129 := Tryd.func66.trans (congrArg some (by kernel_rfl))
  f171 := Tryd.func39.trans (congrArg some (by kernel_rfl))
  f243 := Tryd.func49.trans (congrArg some (by kernel_rfl))
  f246 := Tryd.func54.trans (congrArg some (by kernel_rfl))
  f283 := Tryd.func60.trans (congrArg some (by kernel_rfl))
  f284 := Tryd.func61.trans (congrArg some (by kernel_rfl))
  f285 := Tryd.func62.trans (congrArg some (by kernel_rfl))
  f286 := Tryd.func63.trans (congrArg some (by kernel_rfl))
  f317 := Tryd.func65.trans (congrArg some (by kernel_rfl))
  f318 := Tryd.func67.trans (congrArg some (by kernel_rfl))
  f319 := Tryd.func68.trans (congrArg some (by kernel_rfl))
  f320 := Tryd.func69.trans (congrArg some (by kernel_rfl))
  f337 := Tryd.func70.trans (congrArg some (by kernel_rfl))
  f338 := Tryd.func71.trans (congrArg some (by kernel_rfl))
  t0 := Tryd.underlying0
  a0 := Tryd.isAgg0
  z0 := Tryd.sizeOf0
  v0 := Tryd.zeroValue0
  t2 := Tryd.underlying2
  a2 := Tryd.isAgg2
  z2 := Tryd.sizeOf2
  v2 := Tryd.zeroValue2
  t3 := Tryd.underlying3
  a3 := Tryd.isAgg3
  z3 := Tryd.sizeOf3
  v3 := Tryd.zeroValue3
  t4 := Tryd.underlying4
  a4 := Tryd.isAgg4
  z4 := Tryd.sizeOf4
  v4 := Tryd.zeroValue4
  t5 := Tryd.underlying5
  a5 := Tryd.isAgg5
  z5 := Tryd.sizeOf5
  v5 := Tryd.zeroValue5
  t9 := Tryd.underlying9
  a9 := Tryd.isAgg9
  z9 := Tryd.sizeOf9
  v9 := Tryd.zeroValue9
  t20 := Tryd.underlying20
  a20 := Tryd.isAgg20
  z20 := Tryd.sizeOf20
  v20 := Tryd.zeroValue20
  t37 := Tryd.underlying110
  a37 := Tryd.isAgg110
  z37 := Tryd.sizeOf110
  v37 := Tryd.zeroValue110
  t46 := Tryd.underlying119
  a46 := Tryd.isAgg119
  z46 := Tryd.sizeOf119
  v46 := Tryd.zeroValue119
  t51 := Tryd.underlying117
  a51 := Tryd.isAgg117
  z51 := Tryd.sizeOf117
  v51 := Tryd.zeroValue117
  t53 := Tryd.underlying107
  a53 := Tryd.isAgg107
  z53 := Tryd.sizeOf107
  v53 := Tryd.zeroValue107
  t171 := Tryd.underlying106
  a171 := Tryd.isAgg106
  z171 := Tryd.sizeOf106
  v171 := Tryd.zeroValue106
  t173 := Tryd.underlying111
  a173 := Tryd.isAgg111
  z173 := Tryd.sizeOf111
  v173 := Tryd.zeroValue111
  t212 := Tryd.underlying116
  a212 := Tryd.isAgg116
  z212 := Tryd.sizeOf116
  v212 := Tryd.zeroValue116
  t213 := Tryd.underlying118
  a213 := Tryd.isAgg118
  z213 := Tryd.sizeOf118
  t232 := Tryd.underlying122
  a232 := Tryd.isAgg122
  z232 := Tryd.sizeOf122
  v232 := Tryd.zeroValue122
  t233 := Tryd.underlying123
  a233 := Tryd.isAgg123
  z233 := Tryd.sizeOf123
  v233 := Tryd.zeroValue123
  g17 := by kernel_rfl
  g18 := by kernel_rfl
  g19 := by kernel_rfl
  i0 := by kernel_rfl
  i2 := by kernel_rfl
  i3 := by kernel_rfl
  i4 := by kernel_rfl
  i5 := by kernel_rfl
  i9 := by kernel_rfl
  i20 := by kernel_rfl
  i37 := by kernel_rfl
  i46 := by kernel_rfl
  i51 := by kernel_rfl
  i53 := by kernel_rfl
  i171 := by kernel_rfl
  i173 := by kernel_rfl
  i212 := by kernel_rfl
  i232 := by kernel_rfl
  i233 := by kernel_rfl
  m17 := by kernel_rfl
  m18 := by kernel_rfl
  m19 := by kernel_rfl }
end
def itoaC_R (r : Th (ByteArray)) : AV := .s fun _ => (r ())
def itoaC_P (n : Int) : Prop := -9223372036854775808 ≤ n ∧ n ≤ 9223372036854775807
def itoaC_D : Det := fun A => match A with
  | [.i .i64 n] => some (fun _ => itoaC_P (n ()), itoaC_R fun _ => itoaB (n ()))
  | _ => none
theorem itoaC_vc (n : Int) (hp : -9223372036854775808 ≤ n ∧ n ≤ 9223372036854775807) : FnOk Tryd.prog 39 [.i .i64 fun _ => n] [] (outA (itoaC_R fun _ => itoaB n) []) := by
  have fin : outA (itoaC_R fun _ => itoaB n) [] (.s fun _ => itoaB n) [] [] := by
    cbv
    repeat' first | (refine Stp.mk ?_; cbv) | (refine Gen.mk fun r hr => ?_; (try simp only [Dat.ok, Dat.dec, Leaf.ok, Leaf.val, Ins.eta, Vm.eta, Emit.eta, Fence.eta, Gate.eta, Give.eta, PairAct.eta, Node.eta, Pair.eta, val_sl, val_nil] at hr); cbv) | exact trivial | rfl | refine Both.mk ?_ ?_ | (refine Imp.mk fun h => ?_; (try dsimp only at h); (try simp only [nc, Int.toNat_natCast, ne_eq, zz] at h); (try simp only [nc] at h)) | refine Ob.mk ?_ ?_ | refine Chk.mk (by kernel_rfl) ?_ | refine Eq'.mk ?_ | (refine AllN.mk fun i hi => ?_; cbv) | (refine AllC.mk fun c hc hcm => ?_; (try dsimp only at hc); cbv) | (refine AllS.mk fun r hr => ?_; (try simp only [Dat.ok, Dat.dec, Leaf.ok, Leaf.val, Ins.eta, Vm.eta, Emit.eta, Fence.eta, Gate.eta, Give.eta, PairAct.eta, Node.eta, Pair.eta, val_sl] at hr); cbv)
  generalize outA (itoaC_R fun _ => itoaB n) [] = K at fin
  intro w M β cp vs hh hA
  have hv : vs = #[.int .i64 n] := by
    apply Array.toList_inj.1
    have h1 := hA.1
    have h2 := hA.2 0 _ rfl
    match hvl : vs.toList with
    | [v] =>
      rw [hvl] at h2
      have h3 : v = .int .i64 n := rep_i (by simpa using h2)
      rw [h3]
    | [] => rw [hvl] at h1; simp at h1
    | _ :: _ :: _ => rw [hvl] at h1; simp at h1
  subst hv
  refine (Any.strconv_Itoa Tryd.itoaL n hp.1 hp.2 w hh.dom.tb).mono ?_
  rintro e w' ⟨rfl, k, os, rfl⟩
  have hsz : w.heap.size ≤ (Sort.grow (w.drewN k) os).heap.size := by rw [Sort.size_grow]; exact Nat.le_add_right _ _
  have hsame : ∀ j, j < w.heap.size → (Sort.grow (w.drewN k) os).heap[j]? = w.heap[j]? := fun j hj => by
    show (w.heap ++ os)[j]? = _
    rw [Array.getElem?_append_left hj]
  obtain ⟨g1, g2⟩ := hh.grow hsz hsame
  exact ⟨_, _, _, _, M, β, cp, rfl, fin, g1, ⟨fun j hj hM => ⟨hsame j hj, hM⟩, fun _ _ _ => ⟨rfl, rfl⟩, ⟨rfl, rfl, rfl, hsz, fun j hj _ => hsame j hj, fun _ _ _ h => h, fun _ h => .inl h⟩, fun j hj => .inl (g2 j hj)⟩, .c (.s _)⟩
theorem itoaC_ok : PcOk Tryd.prog 39 (detPC itoaC_D) := det_okA fun A p r h hp0 => by
  unfold itoaC_D at h
  split at h
  · rename_i n
    cases h
    have hp := hp0
    exact ⟨rfl, FnOk.pre (A' := [.i .i64 fun _ => n ()]) (itoaC_vc (n ()) hp) (.mk (.mk (.mk rfl) (.mk rfl)) (trivial))⟩
  · cases h
def okE (x : Emit) : Prop := (-9223372036854775808 ≤ x.port ∧ x.port ≤ 9223372036854775807) ∧ -9223372036854775808 ≤ x.n ∧ x.n ≤ 9223372036854775807
theorem itoaB_size {n : Int} (hp : -9223372036854775808 ≤ n ∧ n ≤ 9223372036854775807) : (itoaB n).size ≤ 21 := by
  have := Lib.itoa_length_le n hp.1 hp.2
  show (Lib.itoa n).toArray.size ≤ 21
  simpa using this
theorem sp_size : (⟨#[32]⟩ : ByteArray).size = 1 := rfl
def dTx : FuncId → Option Dt := fun f => match f with
  | 39 => some (.c itoaC_D)
  | _ => none
theorem dTx_ok : DetOk Tryd.prog dTx := fun f d h => by
  unfold dTx at h
  split at h
  · cases h; exact ⟨⟨Tryd.f39, Tryd.func39, by kernel_rfl, by kernel_rfl⟩, itoaC_ok⟩
  · cases h
def textC_R (r : Th (ByteArray)) : AV := .s fun _ => (r ())
def textC_P (x : Emit) : Prop := okE x
def textC_D : Det := fun A => match A with
  | [.agg x] => some (fun _ => Dat.ok Emit x ∧ textC_P (Dat.dec x), textC_R fun _ => textV (Dat.dec x))
  | _ => none
set_option maxRecDepth 100000 in
set_option maxHeartbeats 4000000 in
theorem textC_vc (x : Emit) (hp : textC_P x) : FnOk Tryd.prog 24 [.agg (Dat.enc fun _ => x)] [] (outA (textC_R fun _ => textV x) []) := by
  refine fn_ok envOk zl noCon_ok (draws_ok envOk zl dTx_ok mixed) (keep := [0, 1, 2]) Tryd.func24 rfl ?_
  cbv
  repeat' first | (show Stp _; exfalso; first | omega | (exact h ‹_›) | (exact absurd ‹_› h) | (exact Bool.false_ne_true (h.symm.trans (show _ = true by assumption)))) | (refine Stp.mk ?_; cbv) | (refine Gen.mk fun r hr => ?_; (try simp only [Dat.ok, Dat.dec, Leaf.ok, Leaf.val, Ins.eta, Vm.eta, Emit.eta, Fence.eta, Gate.eta, Give.eta, PairAct.eta, Node.eta, Pair.eta, val_sl, val_nil] at hr); cbv) | exact trivial | rfl | refine Both.mk ?_ ?_ | (refine Imp.mk fun h => ?_; (try dsimp only at h); (try simp only [nc, Int.toNat_natCast, ne_eq, zz] at h); (try simp only [nc] at h)) | refine Ob.mk ?_ ?_ | refine Chk.mk (by kernel_rfl) ?_ | refine Eq'.mk ?_ | (refine AllN.mk fun i hi => ?_; cbv) | (refine AllC.mk fun c hc hcm => ?_; (try dsimp only at hc); cbv) | (refine AllS.mk fun r hr => ?_; (try simp only [Dat.ok, Dat.dec, Leaf.ok, Leaf.val, Ins.eta, Vm.eta, Emit.eta, Fence.eta, Gate.eta, Give.eta, PairAct.eta, Node.eta, Pair.eta, val_sl] at hr); cbv)
  all_goals ((try dsimp only at *); (try simp only [nc, Int.toNat_natCast, ne_eq, zz] at *); (try simp only [nc] at *))
  all_goals have h1 := itoaB_size hp.1
  all_goals have h2 := itoaB_size hp.2
  all_goals first
    | exact hp.1
    | exact hp.2
    | (rw [sp_size]; omega)
    | (rw [ByteArray.size_append, sp_size]; omega)
    | fail
theorem textC_ok : PcOk Tryd.prog 24 (detPC textC_D) := det_okA fun A p r h hp0 => by
  unfold textC_D at h
  split at h
  · rename_i x
    cases h
    obtain ⟨g0, hp⟩ := hp0
    exact ⟨rfl, FnOk.pre (A' := [.agg (Dat.enc fun _ => (Dat.dec x : Emit))]) (textC_vc (Dat.dec x) hp) (.mk (Dat.hle _ g0) (trivial))⟩
  · cases h

end Go.Proofs.YtddkjgdfjkklcaaDoor
