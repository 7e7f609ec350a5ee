/- strconv.ParseInt by the kit's theorems: its number. -/
import Derived.Test.YtebiaihhpflpgaaDoorStrs
import Derived.Shelf.Strconv.ErrVarParseInt
import Derived.Ground.NamesProg
set_option linter.all false
namespace Go.Proofs.YtebiaihhpflpgaaDoor
open Go Go.Abs

open Go.RowKit
def numV (s : ByteArray) : Int := match Lib.parseIntB 64 s.data.toList with
  | .ok v => v
  | .range => Lib.intSat 64 s.data.toList
  | _ => 0
section
open Go.Shelf
def Tryd.parseL_ren : Go.Shelf.Ren := ⟨fun | 174 => 54 | 247 => 68 | 245 => 69 | 287 => 77 | 279 => 78 | 280 => 79 | 281 => 80 | 282 => 81 | 321 => 87 | 322 => 88 | 316 => 89 | 171 => 36 | 205 => 90 | 243 => 53 | 246 => 67 | 283 => 73 | 284 => 74 | 285 => 75 | 286 => 76 | 129 => 83 | 317 => 82 | 318 => 84 | 319 => 85 | 320 => 86 | 337 => 91 | 338 => 92 | n => n, fun | 9 => 9 | 3 => 3 | 2 => 2 | 75 => 48 | 85 => 86 | 4 => 4 | 167 => 110 | 5 => 5 | 53 => 91 | 175 => 111 | 46 => 76 | 168 => 113 | 37 => 44 | 0 => 0 | 210 => 123 | 21 => 21 | 127 => 72 | 145 => 128 | 143 => 126 | 171 => 105 | 173 => 108 | 212 => 117 | 51 => 88 | 20 => 20 | 213 => 118 | 232 => 129 | 233 => 130 | 80 => 54 | n => n, fun | 15 => 4 | 16 => 5 | 17 => 3 | 18 => 6 | 19 => 7 | n => n⟩
theorem Tryd.parseL : Go.Proofs.LaysC.n174 Tryd.prog Tryd.parseL_ren := {
  mixed := by kernel_rfl
  f129 := Tryd.func83.trans (congrArg some (by kernel_rfl))
  f171 := Tryd.func36.trans (congrArg some (by kernel_rfl))
  f174 := Tryd.func54.trans (congrArg some (by kernel_rfl))
  f205 := Tryd.func90.trans (congrArg some (by kernel_rfl))
  f243 := Tryd.func53.trans (congrArg some (by kernel_rfl))
  f245 := Tryd.func69.trans (congrArg some (by kernel_rfl))
  f246 := Tryd.func67.trans (congrArg some (by kernel_rfl))
  f247 := Tryd.func68.trans (congrArg some (by kernel_rfl))
  f279 := Tryd.func78.trans (congrArg some (by kernel_rfl))
  f280 := Tryd.func79.trans (congrArg some (by kernel_rfl))
  f281 := Tryd.func80.trans (congrArg some (by kernel_rfl))
  f282 := Tryd.func81.trans (congrArg some (by kernel_rfl))
  f283 := Tryd.func73.trans (congrArg some (by kernel_rfl))
  f284 := Tryd.func74.trans (congrArg some (by kernel_rfl))
  f285 := Tryd.func75.trans (congrArg some (by kernel_rfl))
  f286 := Tryd.func76.trans (congrArg some (by kernel_rfl))
  f287 := Tryd.func77.trans (congrArg some (by kernel_rfl))
  f316 := Tryd.func89.trans (congrArg some (by kernel_rfl))
  f317 := Tryd.func82.trans (congrArg some (by kernel_rfl))
  f318 := Tryd.func84.trans (congrArg some (by kernel_rfl))
  f319 := Tryd.func85.trans (congrArg some (by kernel_rfl))
  f320 := Tryd.func86.trans (congrArg some (by kernel_rfl))
  f321 := Tryd.func87.trans (congrArg some (by kernel_rfl))
  f322 := Tryd.func88.trans (congrArg some (by kernel_rfl))
  f337 := Tryd.func91.trans (congrArg some (by kernel_rfl))
  f338 := Tryd.func92.trans (congrArg some (by kernel_rfl))
  t0 := Tryd.underlying0
  a0 := Tryd.isAgg0
  z0 := Tryd.sizeOf0
  v0 := Tryd.zeroValue0
  t2 := Tryd.underlying2
  a2 := Tryd.isAgg2
  z2 := Tryd.sizeOf2
  v2 := Tryd.zeroValue2
  t3 := Tryd.underlying3
  a3 := Tryd.isAgg3
  z3 := Tryd.sizeOf3
  v3 := Tryd.zeroValue3
  t4 := Tryd.underlying4
  a4 := Tryd.isAgg4
  z4 := Tryd.sizeOf4
  v4 := Tryd.zeroValue4
  t5 := Tryd.underlying5
  a5 := Tryd.isAgg5
  z5 := Tryd.sizeOf5
  v5 := Tryd.zeroValue5
  t9 := Tryd.underlying9
  a9 := Tryd.isAgg9
  z9 := Tryd.sizeOf9
  v9 := Tryd.zeroValue9
  t20 := Tryd.underlying20
  a20 := Tryd.isAgg20
  z20 := Tryd.sizeOf20
  v20 := Tryd.zeroValue20
  t21 := Tryd.underlying21
  a21 := Tryd.isAgg21
  z21 := Tryd.sizeOf21
  v21 := Tryd.zeroValue21
  t37 := Tryd.underlying44
  a37 := Tryd.isAgg44
  z37 := Tryd.sizeOf44
  v37 := Tryd.zeroValue44
  t46 := Tryd.underlying76
  a46 := Tryd.isAgg76
  z46 := Tryd.sizeOf76
  v46 := Tryd.zeroValue76
  t51 := Tryd.underlying88
  a51 := Tryd.isAgg88
  z51 := Tryd.sizeOf88
  v51 := Tryd.zeroValue88
  t53 := Tryd.underlying91
  a53 := Tryd.isAgg91
  z53 := Tryd.sizeOf91
  v53 := Tryd.zeroValue91
  t75 := Tryd.underlying48
  a75 := Tryd.isAgg48
  z75 := Tryd.sizeOf48
  v75 := Tryd.zeroValue48
  t85 := Tryd.underlying86
  a85 := Tryd.isAgg86
  z85 := Tryd.sizeOf86
  v85 := Tryd.zeroValue86
  t127 := Tryd.underlying72
  a127 := Tryd.isAgg72
  z127 := Tryd.sizeOf72
  v127 := Tryd.zeroValue72
  t143 := Tryd.underlying126
  a143 := Tryd.isAgg126
  z143 := Tryd.sizeOf126
  v143 := Tryd.zeroValue126
  t145 := Tryd.underlying128
  a145 := Tryd.isAgg128
  z145 := Tryd.sizeOf128
  v145 := Tryd.zeroValue128
  t167 := Tryd.underlying110
  a167 := Tryd.isAgg110
  z167 := Tryd.sizeOf110
  v167 := Tryd.zeroValue110
  t168 := Tryd.underlying113
  a168 := Tryd.isAgg113
  z168 := Tryd.sizeOf113
  v168 := Tryd.zeroValue113
  t171 := Tryd.underlying105
  a171 := Tryd.isAgg105
  z171 := Tryd.sizeOf105
  v171 := Tryd.zeroValue105
  t173 := Tryd.underlying108
  a173 := Tryd.isAgg108
  z173 := Tryd.sizeOf108
  v173 := Tryd.zeroValue108
  t175 := Tryd.underlying111
  a175 := Tryd.isAgg111
  z175 := Tryd.sizeOf111
  v175 := Tryd.zeroValue111
  t210 := Tryd.underlying123
  a210 := Tryd.isAgg123
  z210 := Tryd.sizeOf123
  v210 := Tryd.zeroValue123
  t212 := Tryd.underlying117
  a212 := Tryd.isAgg117
  z212 := Tryd.sizeOf117
  v212 := Tryd.zeroValue117
  t213 := Tryd.underlying118
  a213 := Tryd.isAgg118
  z213 := Tryd.sizeOf118
  t232 := Tryd.underlying129
  a232 := Tryd.isAgg129
  z232 := Tryd.sizeOf129
  v232 := Tryd.zeroValue129
  t233 := Tryd.underlying130
  a233 := Tryd.isAgg130
  z233 := Tryd.sizeOf130
  v233 := Tryd.zeroValue130
  g15 := by kernel_rfl
  g16 := by kernel_rfl
  g17 := by kernel_rfl
  g18 := by kernel_rfl
  g19 := by kernel_rfl
  t80 := Tryd.underlying54
  a80 := Tryd.isAgg54
  z80 := Tryd.sizeOf54
  v80 := Tryd.zeroValue54
  i0 := by kernel_rfl
  i2 := by kernel_rfl
  i3 := by kernel_rfl
  i4 := by kernel_rfl
  i5 := by kernel_rfl
  i9 := by kernel_rfl
  i20 := by kernel_rfl
  i21 := by kernel_rfl
  i37 := by kernel_rfl
  i46 := by kernel_rfl
  i51 := by kernel_rfl
  i53 := by kernel_rfl
  i75 := by kernel_rfl
  i80 := by kernel_rfl
  i85 := by kernel_rfl
  i127 := by kernel_rfl
  i143 := by kernel_rfl
  i145 := by kernel_rfl
  i167 := by kernel_rfl
  i168 := by kernel_rfl
  i171 := by kernel_rfl
  i173 := by kernel_rfl
  i175 := by kernel_rfl
  i210 := by kernel_rfl
  i212 := by kernel_rfl
  i232 := by kernel_rfl
  i233 := by kernel_rfl
  m15 := by kernel_rfl
  m16 := by kernel_rfl
  m17 := by kernel_rfl
  m18 := by kernel_rfl
  m19 := by kernel_rfl
  c0 := by kernel_rfl
  c2 := by kernel_rfl
  c3 := by kernel_rfl
  c4 := by kernel_rfl
  c5 := by kernel_rfl
  c9 := by kernel_rfl
  c20 := by kernel_rfl
  c21 := by kernel_rfl
  c37 := by kernel_rfl
  c46 := by kernel_rfl
  c51 := by kernel_rfl
  c53 := by kernel_rfl
  c75 := by kernel_rfl
  c80 := by kernel_rfl
  c85 := by kernel_rfl
  c127 := by kernel_rfl
  c143 := by kernel_rfl
  c145 := by kernel_rfl
  c167 := by kernel_rfl
  c168 := by kernel_rfl
  c171 := by kernel_rfl
  c173 := by kernel_rfl
  c175 := by kernel_rfl
  c210 := by kernel_rfl
  c212 := by kernel_rfl
  c213 := by kernel_rfl
  c232 := by kernel_rfl
  c233 := by kernel_rfl }
end
theorem parse_vc (s : ByteArray) (hp : s.size ≤ 281474976710656) : FnOk Tryd.prog 54 [.s fun _ => s, .i .i64 fun _ => 10, .i .i64 fun _ => 64] [] (outA (.tup [.i .i64 fun _ => numV s, .any]) []) := by
  have fin : outA (.tup [.i .i64 fun _ => numV s, .any]) [] (.tup [.i .i64 fun _ => numV s, .any]) [] [] := by
    cbv
    repeat' first | (refine Stp.mk ?_; cbv) | (refine Gen.mk fun r hr => ?_; (try simp only [Dat.ok, Dat.dec, Leaf.ok, Leaf.val, Z0, Z1, val_sl, val_nil] at hr); cbv) | exact trivial | rfl | refine Both.mk ?_ ?_ | (refine Imp.mk fun h => ?_; (try dsimp only at h); (try simp only [nc, Int.toNat_natCast, ne_eq, zz] at h); (try simp only [nc] at h)) | refine Ob.mk ?_ ?_ | refine Chk.mk (by kernel_rfl) ?_ | refine Eq'.mk ?_ | (refine AllN.mk fun i hi => ?_; cbv) | (refine AllC.mk fun c hc hcm => ?_; (try dsimp only at hc); cbv) | (refine AllS.mk fun r hr => ?_; (try simp only [Dat.ok, Dat.dec, Leaf.ok, Leaf.val, Z0, Z1, val_sl] at hr); cbv)
  refine fnOk_kit fin fun w M β cp vs hd hA => ?_
  obtain ⟨u, v, t, rfl, hu, hv, ht⟩ := repL_3 hA
  rw [rep_s hu, rep_i hv, rep_i ht]
  obtain ⟨-, -, ⟨t1, p1, h1⟩, ⟨t2, p2, h2⟩⟩ := hd.tb
  have R : ∀ (w' : World) (n : Int) (e : Value), numV s = n → RepC w' M (.tup [.i .i64 fun _ => numV s, .any]) (.tuple #[.int .i64 n, e]) := fun w' n e h => by
    subst h
    refine .tup _ _ rfl fun j x hx => ?_
    match j, hx with
    | 0, hx => cases hx; exact .i _ _
    | 1, hx => cases hx; exact .any _
  cases h : Lib.parseIntB 64 s.data.toList with
  | ok n =>
    refine (Any.strconv_ParseInt_10_at64_ok Tryd.parseL s (by omega) n h w).mono ?_
    rintro e w' ⟨rfl, hw⟩
    refine ⟨_, rfl, R _ _ _ (by unfold numV; rw [h]), ?_⟩
    rcases hw with rfl | ⟨t, rfl⟩
    · exact Below.refl _ _
    · exact Joins.below_bytesWorld _ _ _ _ (Nat.le_refl _)
  | range =>
    refine (Any.strconv_ParseInt_10_at64_range_var Tryd.parseL s hp h t2 p2 w h2).mono ?_
    rintro e w' ⟨N, rfl, -, -, hb⟩
    exact ⟨_, rfl, R _ _ _ (by unfold numV; rw [h]), hb⟩
  | _ =>
    refine (Any.strconv_ParseInt_10_at64_syntax_var Tryd.parseL s hp h t1 p1 w h1).mono ?_
    rintro e w' ⟨N, rfl, -, -, hb⟩
    exact ⟨_, rfl, R _ _ _ (by unfold numV; rw [h]), hb⟩
def parseC_D : Det := fun A => match A with
  | [.s x, .i .i64 b, .i .i64 n] => some (fun _ => b () = 10 ∧ n () = 64 ∧ (x ()).size ≤ 281474976710656, .tup [.i .i64 fun _ => numV (x ()), .any])
  | _ => none
theorem parseC_ok : PcOk Tryd.prog 54 (detPC parseC_D) := det_okA fun A p r h hp0 => by
  unfold parseC_D at h
  split at h
  · rename_i x b n
    cases h
    obtain ⟨h1, h2, h3⟩ := hp0
    exact ⟨rfl, FnOk.pre (A' := [.s fun _ => x (), .i .i64 fun _ => 10, .i .i64 fun _ => 64]) (parse_vc (x ()) h3) (.mk (.mk rfl) (.mk (.mk (.mk rfl) (.mk h1)) (.mk (.mk (.mk rfl) (.mk h2)) trivial)))⟩
  · cases h
noncomputable def cNu : FuncId → Con := fun f => match f with
  | 54 => pureCon (detPC parseC_D)
  | _ => fun _ _ _ => Bad 1001
theorem cNu_ok : ConOk Tryd.prog cNu := fun f A H K h => by
  unfold cNu at h
  split at h
  · exact ⟨⟨Tryd.f54, Tryd.func54, by kernel_rfl, by kernel_rfl⟩, pureCon_ok parseC_ok h⟩
  · cases h
def numC_R (r : Th (Int)) : AV := .i .i64 fun _ => (r ())
def numC_P (s : ByteArray) : Prop := s.size ≤ 281474976710656
def numC_D : Det := fun A => match A with
  | [.s s] => some (fun _ => numC_P (s ()), numC_R fun _ => numV (s ()))
  | _ => none
set_option maxRecDepth 100000 in
set_option maxHeartbeats 4000000 in
theorem numC_vc (s : ByteArray) (hp : numC_P s) : FnOk Tryd.prog 39 [.s fun _ => s] [] (outA (numC_R fun _ => numV s) []) := by
  refine fn_ok envOk zl cNu_ok noDraws_ok (keep := [0, 2, 3]) Tryd.func39 rfl ?_
  cbv
  repeat' first | (show Stp _; exfalso; first | omega | (exact h ‹_›) | (exact absurd ‹_› h) | (exact Bool.false_ne_true (h.symm.trans (show _ = true by assumption)))) | (refine Stp.mk ?_; cbv) | (refine Gen.mk fun r hr => ?_; (try simp only [Dat.ok, Dat.dec, Leaf.ok, Leaf.val, Z0, Z1, val_sl, val_nil] at hr); cbv) | exact trivial | rfl | refine Both.mk ?_ ?_ | (refine Imp.mk fun h => ?_; (try dsimp only at h); (try simp only [nc, Int.toNat_natCast, ne_eq, zz] at h); (try simp only [nc] at h)) | refine Ob.mk ?_ ?_ | refine Chk.mk (by kernel_rfl) ?_ | refine Eq'.mk ?_ | (refine AllN.mk fun i hi => ?_; cbv) | (refine AllC.mk fun c hc hcm => ?_; (try dsimp only at hc); cbv) | (refine AllS.mk fun r hr => ?_; (try simp only [Dat.ok, Dat.dec, Leaf.ok, Leaf.val, Z0, Z1, val_sl] at hr); cbv)
  all_goals ((try dsimp only at *); (try simp only [nc, Int.toNat_natCast, ne_eq, zz] at *); (try simp only [nc] at *))
  all_goals first
    | exact ⟨trivial, trivial, hp⟩
    | exact ⟨rfl, rfl, hp⟩
    | rfl
    | fail
theorem numC_ok : PcOk Tryd.prog 39 (detPC numC_D) := det_okA fun A p r h hp0 => by
  unfold numC_D at h
  split at h
  · rename_i s
    cases h
    have hp := hp0
    exact ⟨rfl, FnOk.pre (A' := [.s fun _ => s ()]) (numC_vc (s ()) hp) (.mk (.mk rfl) (trivial))⟩
  · cases h
def rV : ByteArray := ⟨#[114]⟩
def regV (n : Int) : ByteArray := rV ++ itoaB n
noncomputable def cRe : FuncId → Con := fun f => match f with
  | 36 => pureCon (detPC itoaC_D)
  | _ => fun _ _ _ => Bad 1001
theorem cRe_ok : ConOk Tryd.prog cRe := fun f A H K h => by
  unfold cRe at h
  split at h
  · exact ⟨⟨Tryd.f36, Tryd.func36, by kernel_rfl, by kernel_rfl⟩, pureCon_ok itoaC_ok h⟩
  · cases h
def regC_R (r : Th (ByteArray)) : AV := .s fun _ => (r ())
def regC_P (n : Int) : Prop := -9223372036854775808 ≤ n ∧ n ≤ 9223372036854775807
def regC_D : Det := fun A => match A with
  | [.i .i64 n] => some (fun _ => regC_P (n ()), regC_R fun _ => regV (n ()))
  | _ => none
set_option maxRecDepth 100000 in
set_option maxHeartbeats 4000000 in
theorem regC_vc (n : Int) (hp : regC_P n) : FnOk Tryd.prog 35 [.i .i64 fun _ => n] [] (outA (regC_R fun _ => regV n) []) := by
  refine fn_ok envOk zl cRe_ok noDraws_ok (keep := [0, 2]) Tryd.func35 rfl ?_
  cbv
  repeat' first | (show Stp _; exfalso; first | omega | (exact h ‹_›) | (exact absurd ‹_› h) | (exact Bool.false_ne_true (h.symm.trans (show _ = true by assumption)))) | (refine Stp.mk ?_; cbv) | (refine Gen.mk fun r hr => ?_; (try simp only [Dat.ok, Dat.dec, Leaf.ok, Leaf.val, Z0, Z1, val_sl, val_nil] at hr); cbv) | exact trivial | rfl | refine Both.mk ?_ ?_ | (refine Imp.mk fun h => ?_; (try dsimp only at h); (try simp only [nc, Int.toNat_natCast, ne_eq, zz] at h); (try simp only [nc] at h)) | refine Ob.mk ?_ ?_ | refine Chk.mk (by kernel_rfl) ?_ | refine Eq'.mk ?_ | (refine AllN.mk fun i hi => ?_; cbv) | (refine AllC.mk fun c hc hcm => ?_; (try dsimp only at hc); cbv) | (refine AllS.mk fun r hr => ?_; (try simp only [Dat.ok, Dat.dec, Leaf.ok, Leaf.val, Z0, Z1, val_sl] at hr); cbv)
  all_goals ((try dsimp only at *); (try simp only [nc, Int.toNat_natCast, ne_eq, zz] at *); (try simp only [nc] at *))
  all_goals first
    | exact hp
    | rfl
    | (have := itoaB_size hp
       have e : (⟨#[114]⟩ : ByteArray).size = 1 := rfl
       rw [e]; omega)
    | fail
theorem regC_ok : PcOk Tryd.prog 35 (detPC regC_D) := det_okA fun A p r h hp0 => by
  unfold regC_D at h
  split at h
  · rename_i n
    cases h
    have hp := hp0
    exact ⟨rfl, FnOk.pre (A' := [.i .i64 fun _ => n ()]) (regC_vc (n ()) hp) (.mk (.mk (.mk rfl) (.mk rfl)) (trivial))⟩
  · cases h

end Go.Proofs.YtebiaihhpflpgaaDoor
