/- strconv.ParseUint and FormatUint by the kit's theorems. -/
import Derived.Test.YtnjngpjkhddnfaaGreatDoorStrs
import Derived.Shelf.Pu.ErrVarParseUint
import Derived.Shelf.Strconv.Itoa3
import Derived.Ground.MpProg
set_option linter.all false
namespace Go.Proofs.YtnjngpjkhddnfaaGreatDoor
open Go Go.Abs

open Go.RowKit
section
open Go.Shelf
def Tryz.parseUL_ren : Go.Shelf.Ren := ⟨fun | 14 => 74 | 16 => 97 | 17 => 98 | 19 => 132 | 20 => 133 | 21 => 134 | 22 => 135 | 23 => 136 | 24 => 137 | 25 => 151 | 27 => 51 | 26 => 152 | 28 => 73 | 29 => 96 | 30 => 128 | 31 => 129 | 32 => 130 | 33 => 131 | 35 => 92 | 34 => 147 | 36 => 148 | 37 => 149 | 38 => 150 | 39 => 155 | 40 => 156 | n => n, fun | 9 => 9 | 3 => 3 | 22 => 128 | 24 => 86 | 25 => 129 | 4 => 4 | 34 => 179 | 5 => 5 | 36 => 120 | 37 => 81 | 0 => 0 | 39 => 181 | 21 => 21 | 44 => 202 | 47 => 116 | 50 => 208 | 48 => 206 | 2 => 2 | 52 => 175 | 55 => 177 | 59 => 198 | 60 => 149 | 20 => 20 | 61 => 199 | 65 => 209 | 66 => 210 | 67 => 89 | n => n, fun | 0 => 4 | 1 => 5 | 2 => 3 | 3 => 6 | 4 => 7 | n => n⟩
theorem Tryz.parseUL : Go.Proofs.LaysPu.n14 Tryz.prog Tryz.parseUL_ren := {
  mixed := by kernel_rfl
  f14 := Tryz.func74.trans (congrArg some (by kernel_rfl))
  f16 := Tryz.func97.trans (congrArg some (by kernel_rfl))
  f17 := Tryz.func98.trans (congrArg some (by kernel_rfl))
  f19 := Tryz.func132.trans (congrArg some (by kernel_rfl))
  f20 := Tryz.func133.trans (congrArg some (by kernel_rfl))
  f21 := Tryz.func134.trans (congrArg some (by kernel_rfl))
  f22 := Tryz.func135.trans (congrArg some (by kernel_rfl))
  f23 := Tryz.func136.trans (congrArg some (by kernel_rfl))
  f24 := Tryz.func137.trans (congrArg some (by kernel_rfl))
  f25 := Tryz.func151.trans (congrArg some (by kernel_rfl))
  f26 := Tryz.func152.trans (congrArg some (by kernel_rfl))
  f27 := Tryz.func51.trans (congrArg some (by kernel_rfl))
  f28 := Tryz.func73.trans (congrArg some (by kernel_rfl))
  f29 := Tryz.func96.trans (congrArg some (by kernel_rfl))
  f30 := Tryz.func128.trans (congrArg some (by kernel_rfl))
  f31 := Tryz.func129.trans (congrArg some (by kernel_rfl))
  f32 := Tryz.func130.trans (congrArg some (by kernel_rfl))
  f33 := Tryz.func131.trans (congrArg some (by kernel_rfl))
  f34 := Tryz.func147.trans (congrArg some (by kernel_rfl))
  f35 := Tryz.func92.trans (congrArg some (by kernel_rfl))
  f36 := Tryz.func148.trans (congrArg some (by kernel_rfl))
  f37 := Tryz.func149.trans (congrArg some (by kernel_rfl))
  f38 := Tryz.func150.trans (congrArg some (by kernel_rfl))
  f39 := Tryz.func155.trans (congrArg some (by kernel_rfl))
  f40 := Tryz.func156.trans (congrArg some (by kernel_rfl))
  t0 := Tryz.underlying0
  a0 := Tryz.isAgg0
  z0 := Tryz.sizeOf0
  v0 := Tryz.zeroValue0
  i0 := by kernel_rfl
  t2 := Tryz.underlying2
  a2 := Tryz.isAgg2
  z2 := Tryz.sizeOf2
  v2 := Tryz.zeroValue2
  i2 := by kernel_rfl
  t3 := Tryz.underlying3
  a3 := Tryz.isAgg3
  z3 := Tryz.sizeOf3
  v3 := Tryz.zeroValue3
  i3 := by kernel_rfl
  t4 := Tryz.underlying4
  a4 := Tryz.isAgg4
  z4 := Tryz.sizeOf4
  v4 := Tryz.zeroValue4
  i4 := by kernel_rfl
  t5 := Tryz.underlying5
  a5 := Tryz.isAgg5
  z5 := Tryz.sizeOf5
  v5 := Tryz.zeroValue5
  i5 := by kernel_rfl
  t9 := Tryz.underlying9
  a9 := Tryz.isAgg9
  z9 := Tryz.sizeOf9
  v9 := Tryz.zeroValue9
  i9 := by kernel_rfl
  t20 := Tryz.underlying20
  a20 := Tryz.isAgg20
  z20 := Tryz.sizeOf20
  v20 := Tryz.zeroValue20
  i20 := by kernel_rfl
  t21 := Tryz.underlying21
  a21 := Tryz.isAgg21
  z21 := Tryz.sizeOf21
  v21 := Tryz.zeroValue21
  i21 := by kernel_rfl
  t22 := Tryz.underlying128
  a22 := Tryz.isAgg128
  z22 := Tryz.sizeOf128
  v22 := Tryz.zeroValue128
  i22 := by kernel_rfl
  t24 := Tryz.underlying86
  a24 := Tryz.isAgg86
  z24 := Tryz.sizeOf86
  v24 := Tryz.zeroValue86
  i24 := by kernel_rfl
  t25 := Tryz.underlying129
  a25 := Tryz.isAgg129
  z25 := Tryz.sizeOf129
  v25 := Tryz.zeroValue129
  i25 := by kernel_rfl
  t34 := Tryz.underlying179
  a34 := Tryz.isAgg179
  z34 := Tryz.sizeOf179
  v34 := Tryz.zeroValue179
  i34 := by kernel_rfl
  c34 := by kernel_rfl
  t36 := Tryz.underlying120
  a36 := Tryz.isAgg120
  z36 := Tryz.sizeOf120
  v36 := Tryz.zeroValue120
  i36 := by kernel_rfl
  t37 := Tryz.underlying81
  a37 := Tryz.isAgg81
  z37 := Tryz.sizeOf81
  v37 := Tryz.zeroValue81
  i37 := by kernel_rfl
  t39 := Tryz.underlying181
  a39 := Tryz.isAgg181
  z39 := Tryz.sizeOf181
  v39 := Tryz.zeroValue181
  i39 := by kernel_rfl
  t44 := Tryz.underlying202
  a44 := Tryz.isAgg202
  z44 := Tryz.sizeOf202
  v44 := Tryz.zeroValue202
  i44 := by kernel_rfl
  t47 := Tryz.underlying116
  a47 := Tryz.isAgg116
  z47 := Tryz.sizeOf116
  v47 := Tryz.zeroValue116
  i47 := by kernel_rfl
  t48 := Tryz.underlying206
  a48 := Tryz.isAgg206
  z48 := Tryz.sizeOf206
  v48 := Tryz.zeroValue206
  i48 := by kernel_rfl
  t50 := Tryz.underlying208
  a50 := Tryz.isAgg208
  z50 := Tryz.sizeOf208
  v50 := Tryz.zeroValue208
  i50 := by kernel_rfl
  t52 := Tryz.underlying175
  a52 := Tryz.isAgg175
  z52 := Tryz.sizeOf175
  v52 := Tryz.zeroValue175
  i52 := by kernel_rfl
  t55 := Tryz.underlying177
  a55 := Tryz.isAgg177
  z55 := Tryz.sizeOf177
  v55 := Tryz.zeroValue177
  i55 := by kernel_rfl
  t59 := Tryz.underlying198
  a59 := Tryz.isAgg198
  z59 := Tryz.sizeOf198
  v59 := Tryz.zeroValue198
  i59 := by kernel_rfl
  t60 := Tryz.underlying149
  a60 := Tryz.isAgg149
  z60 := Tryz.sizeOf149
  v60 := Tryz.zeroValue149
  i60 := by kernel_rfl
  t61 := Tryz.underlying199
  a61 := Tryz.isAgg199
  z61 := Tryz.sizeOf199
  t65 := Tryz.underlying209
  a65 := Tryz.isAgg209
  z65 := Tryz.sizeOf209
  v65 := Tryz.zeroValue209
  i65 := by kernel_rfl
  t66 := Tryz.underlying210
  a66 := Tryz.isAgg210
  z66 := Tryz.sizeOf210
  v66 := Tryz.zeroValue210
  i66 := by kernel_rfl
  t67 := Tryz.underlying89
  a67 := Tryz.isAgg89
  z67 := Tryz.sizeOf89
  v67 := Tryz.zeroValue89
  i67 := by kernel_rfl
  g0 := by kernel_rfl
  m0 := by kernel_rfl
  g1 := by kernel_rfl
  m1 := by kernel_rfl
  g2 := by kernel_rfl
  m2 := by kernel_rfl
  g3 := by kernel_rfl
  m3 := by kernel_rfl
  g4 := by kernel_rfl
  m4 := by kernel_rfl }
end
def numU (s : ByteArray) : Int := match Lib.parseUintB 32 s.data.toList with
  | .ok v => v
  | .range => 4294967295
  | _ => 0
def okU (s : ByteArray) : Bool := match Lib.parseUintB 32 s.data.toList with
  | .ok _ => true
  | _ => false
def errU (s : Th ByteArray) : AV := .ite (fun _ => okU (s ())) (.con fun _ => .nilIface) (.ifc 181 .any)
theorem parseU_vc (s : ByteArray) (hp : s.size ≤ 281474976710656) : FnOk Tryz.prog 74 [.s fun _ => s, .i .i64 fun _ => 10, .i .i64 fun _ => 32] [] (outA (.tup [.i .u64 fun _ => numU s, errU fun _ => s]) []) := by
  have fin : outA (.tup [.i .u64 fun _ => numU s, errU fun _ => s]) [] (.tup [.i .u64 fun _ => numU s, errU fun _ => s]) [] [] := by
    cbv
    repeat' first | (refine Stp.mk ?_; cbv) | (refine Gen.mk fun r hr => ?_; (try simp only [Dat.ok, Dat.dec, Leaf.ok, Leaf.val, Z0, Z1, Z2, Z3, Z4, Z5, Z6, Z7, val_sl, val_nil] at hr); cbv) | exact trivial | rfl | refine Both.mk ?_ ?_ | (refine Imp.mk fun h => ?_; (try dsimp only at h); (try simp only [nc, Int.toNat_natCast, ne_eq, zz] at h); (try simp only [nc] at h)) | refine Ob.mk ?_ ?_ | refine Chk.mk (by kernel_rfl) ?_ | refine Eq'.mk ?_ | (refine AllN.mk fun i hi => ?_; cbv) | (refine AllC.mk fun c hc hcm => ?_; (try dsimp only at hc); cbv) | (refine AllS.mk fun r hr => ?_; (try simp only [Dat.ok, Dat.dec, Leaf.ok, Leaf.val, Z0, Z1, Z2, Z3, Z4, Z5, Z6, Z7, val_sl] at hr); cbv)
  refine fnOk_kit fin fun w M β cp vs hd hA => ?_
  obtain ⟨u, v, t, rfl, hu, hv, ht⟩ := repL_3 hA
  rw [rep_s hu, rep_i hv, rep_i ht]
  obtain ⟨-, -, ⟨t1, p1, h1⟩, ⟨t2, p2, h2⟩⟩ := hd.tb
  have R : ∀ (w' : World) (n : Int) (e : Value), numU s = n → RepC w' M (errU fun _ => s) e → RepC w' M (.tup [.i .u64 fun _ => numU s, errU fun _ => s]) (.tuple #[.int .u64 n, e]) := fun w' n e h he => by
    subst h
    refine .tup _ _ rfl fun j x hx => ?_
    match j, hx with
    | 0, hx => cases hx; exact .i _ _
    | 1, hx => cases hx; exact he
  have RF : ∀ (w' : World) (v : Value), okU s = false → RepC w' M (errU fun _ => s) (.iface 181 v) := fun w' v h => .ite _ _ _ _ (fun q => by rw [h] at q; cases q) fun _ => .ifc _ _ _ (.any _)
  cases h : Lib.parseUintB 32 s.data.toList with
  | ok n =>
    refine (Any.strconv_ParseUint_10_at32_ok Tryz.parseUL s (by omega) n h w).mono ?_
    rintro e w' ⟨rfl, hw⟩
    refine ⟨_, rfl, R _ _ _ (by unfold numU; rw [h]) (.ite _ _ _ _ (fun _ => .con (fun _ => .nilIface) rfl) fun q => by have : okU s = false := q; unfold okU at this; rw [h] at this; cases this), ?_⟩
    rcases hw with rfl | rfl
    · exact Below.refl _ _
    · exact Joins.below_bytesWorld _ _ _ _ (Nat.le_refl _)
  | range =>
    refine (Any.strconv_ParseUint_10_at32_range_var Tryz.parseUL s hp h t2 p2 w h2).mono ?_
    rintro e w' ⟨N, rfl, -, -, hb⟩
    exact ⟨_, rfl, R _ _ _ (by unfold numU; rw [h]) (RF _ _ (by unfold okU; rw [h])), hb⟩
  | _ =>
    refine (Any.strconv_ParseUint_10_at32_syntax_var Tryz.parseUL s hp h t1 p1 w h1).mono ?_
    rintro e w' ⟨N, rfl, -, -, hb⟩
    exact ⟨_, rfl, R _ _ _ (by unfold numU; rw [h]) (RF _ _ (by unfold okU; rw [h])), hb⟩
def parseU_D : Det := fun A => match A with
  | [.s x, .i .i64 b, .i .i64 n] => some (fun _ => b () = 10 ∧ n () = 32 ∧ (x ()).size ≤ 281474976710656, .tup [.i .u64 fun _ => numU (x ()), errU x])
  | _ => none
theorem parseU_ok : PcOk Tryz.prog 74 (detPC parseU_D) := det_okA fun A p r h hp0 => by
  unfold parseU_D at h
  split at h
  · rename_i x b n
    cases h
    obtain ⟨h1, h2, h3⟩ := hp0
    exact ⟨rfl, FnOk.pre (A' := [.s fun _ => x (), .i .i64 fun _ => 10, .i .i64 fun _ => 32]) (parseU_vc (x ()) h3) (.mk (.mk rfl) (.mk (.mk (.mk rfl) (.mk h1)) (.mk (.mk (.mk rfl) (.mk h2)) trivial)))⟩
  · cases h
open Go.Shelf Go.Sort Go.Lib in
set_option maxHeartbeats 6400000 in
set_option maxRecDepth 100000 in
theorem fmt_in (u : Nat) (hu64 : u < 18446744073709551616) (w : World) (htab : Lib.TabIs Tryz.prog w "internal/strconv.uint64pow10" .u64 Lib.pow10Tab) :
    Calls Tryz.prog 99 #[.int .u64 u, .int .i64 10] w fun e w' => e = .returned (.string ⟨(Lib.decDigits u).toArray⟩) ∧ ∃ k os, w' = grow (w.drewN k) os := by
  have L := Tryz.itoaL
  have mixed := L.mixed
  have t0 := Tryz.underlying0; have a0 := Tryz.isAgg0; have z0 := Tryz.sizeOf0; have v0 := Tryz.zeroValue0
  have t2 := Tryz.underlying2; have a2 := Tryz.isAgg2; have z2 := Tryz.sizeOf2; have v2 := Tryz.zeroValue2
  have t3 := Tryz.underlying3; have a3 := Tryz.isAgg3; have z3 := Tryz.sizeOf3; have v3 := Tryz.zeroValue3
  have t9 := Tryz.underlying9; have a9 := Tryz.isAgg9; have z9 := Tryz.sizeOf9; have v9 := Tryz.zeroValue9
  have t4 := Tryz.underlying4; have a4 := Tryz.isAgg4; have z4 := Tryz.sizeOf4; have v4 := Tryz.zeroValue4
  have t171 := Tryz.underlying175; have a171 := Tryz.isAgg175; have z171 := Tryz.sizeOf175; have v171 := Tryz.zeroValue175
  have t53 := Tryz.underlying128; have a53 := Tryz.isAgg128; have z53 := Tryz.sizeOf128; have v53 := Tryz.zeroValue128
  have t37 := Tryz.underlying81; have a37 := Tryz.isAgg81; have z37 := Tryz.sizeOf81; have v37 := Tryz.zeroValue81
  have t5 := Tryz.underlying5; have a5 := Tryz.isAgg5; have z5 := Tryz.sizeOf5; have v5 := Tryz.zeroValue5
  have e283 : ∀ args w, (callFunc 128 args).run Tryz.prog w = .ok (.enter 128 args) w := enters_of L.f283 (by kernel_rfl) rfl
  have e284 : ∀ args w, (callFunc 129 args).run Tryz.prog w = .ok (.enter 129 args) w := enters_of L.f284 (by kernel_rfl) rfl
  have e285 : ∀ args w, (callFunc 130 args).run Tryz.prog w = .ok (.enter 130 args) w := enters_of L.f285 (by kernel_rfl) rfl
  by_cases hs : u < 100
  · go_enter Tryz.func99, Tryz.ntmps99
    go_wp2_with (go_at_fn 128; refine (Any.internal_strconv_small { L with } u hs _).mono ?_; rintro e w' ⟨rfl, rfl⟩)
    go_ret
    refine ⟨rfl, 0, #[], by simp [World.drewN_zero]⟩
  · have hu1 : 1 ≤ u := by omega
    have hnd20 : Lib.nDigits u ≤ 20 := by have := Lib.numDigits_eq u hu1 hu64; split at this <;> omega
    have hal : Tryz.prog.arrayLen 175 = 24 := by simp [Program.arrayLen, t171]
    have hsl1 : ∀ W, (Instr.sliceAt 175 (.pointer (some ⟨w.heap.size, 0, none⟩)) none (some (.int .i64 (Lib.nDigits u : Int))) none).run Tryz.prog W = .ok (.slice (some ⟨w.heap.size, 0, none⟩) (Lib.nDigits u) 24) W := fun W => by
      rw [run_sliceAt_array_h W 175 ⟨w.heap.size, 0, none⟩ (by simp [Program.arrayLen, Program.elem, t171]) .i64 (Lib.nDigits u : Int) (by omega) (by rw [hal]; omega)]
      go_simp
    have hH0 : Holds (fun (b : UInt8) => Value.int .u8 (b.toNat : Int)) (w.alloc (.cells Lib.zeros24 175)) w.heap.size 0 (Array.replicate (Lib.nDigits u) (0 : UInt8)) := fun j hj => by
      have hj' : j < Lib.nDigits u := by simpa using hj
      refine ⟨?_, World.frozen?_alloc_new _ _ _ _⟩
      rw [World.cell?_alloc_new, Lib.zeros24_at _ (by omega), getElem!_pos _ j hj]
      simp
    have hfmt := Any.internal_strconv_formatBase10 { L with } w.heap.size 0 24 u (Array.replicate (Lib.nDigits u) 0) (w.alloc (.cells Lib.zeros24 175)) hH0 (by rw [Array.size_replicate]; exact Lib.lt_pow_nDigits u) hu64 (by rw [Array.size_replicate]; omega)
    rw [Array.size_replicate] at hfmt
    have HH0 := Lib.hid hH0
    clear hH0 hal
    go_enter Tryz.func99, Tryz.ntmps99
    go_wp2_with (first
      | (go_at_fn 129; refine (Any.internal_strconv_numDigits { L with } u hu1 hu64 _ (Lib.tabIs_alloc htab _)).mono ?_; rintro e w' ⟨rfl, rfl⟩))
    go_at_fn 130
    refine hfmt.mono ?_
    rintro e w' ⟨rfl, k, v', dk, rfl, hF⟩
    have hcv : (convert 81 9 (.slice (some ⟨w.heap.size, 0, none⟩) (Lib.nDigits u) 24)).run Tryz.prog ((putRow (fun (b : UInt8) => Value.int .u8 (b.toNat : Int)) (w.alloc (.cells Lib.zeros24 175)) w.heap.size 0 dk).drewN k) = .ok (.string ⟨(Lib.decDigits u).toArray⟩) ((putRow (fun (b : UInt8) => Value.int .u8 (b.toNat : Int)) (w.alloc (.cells Lib.zeros24 175)) w.heap.size 0 dk).drewN k) := by
      have h := run_convert_bytes_back (P := Tryz.prog) ((putRow (fun (b : UInt8) => Value.int .u8 (b.toNat : Int)) (w.alloc (.cells Lib.zeros24 175)) w.heap.size 0 dk).drewN k) 81 9 5 ⟨w.heap.size, 0, none⟩ 24 (Lib.decDigits u) t37 t5 t9 (fun j hj => by
        rw [Lib.row_is_numeral hF j hj, Lib.add_plain, World.cell?_drewN]
        exact cell?_putRow (fun (b : UInt8) => Value.int .u8 (b.toNat : Int)) _ w.heap.size 0 _ dk HH0.out (by rw [hF.size, Array.size_replicate]) j (by rw [hF.size]; rw [Lib.decDigits_length] at hj; exact hj))
      rw [Lib.decDigits_length] at h
      exact h
    go_wp2
    go_ret
    rw [alloc_eq_grow]
    obtain ⟨os', _, e⟩ := putRow_grow_new (fun (b : UInt8) => Value.int .u8 (b.toNat : Int)) w #[.cells Lib.zeros24 175] w.heap.size 0 dk (Nat.le_refl _)
    exact ⟨rfl, k, os', by rw [e]; rfl⟩
theorem fmt_out (u : Nat) (hu64 : u < 18446744073709551616) (w : World) (htab : Lib.TabIs Tryz.prog w "internal/strconv.uint64pow10" .u64 Lib.pow10Tab) :
    Calls Tryz.prog 75 #[.int .u64 u, .int .i64 10] w fun e w' => e = .returned (.string ⟨(Lib.decDigits u).toArray⟩) ∧ ∃ k os, w' = Sort.grow (w.drewN k) os := by
  have mixed := Tryz.itoaL.mixed
  have t3 := Tryz.underlying3; have a3 := Tryz.isAgg3; have z3 := Tryz.sizeOf3; have v3 := Tryz.zeroValue3
  have t9 := Tryz.underlying9; have a9 := Tryz.isAgg9; have z9 := Tryz.sizeOf9; have v9 := Tryz.zeroValue9
  have t53 := Tryz.underlying128; have a53 := Tryz.isAgg128; have z53 := Tryz.sizeOf128; have v53 := Tryz.zeroValue128
  have e9 : ∀ args w, (callFunc 99 args).run Tryz.prog w = .ok (.enter 99 args) w := enters_of Tryz.func99 (by kernel_rfl) rfl
  go_enter Tryz.func75, Tryz.ntmps75
  go_wp2_with (go_at_fn 99; refine (fmt_in u hu64 _ htab).mono ?_; rintro e w' ⟨rfl, k, os, rfl⟩)
  go_ret
  exact ⟨rfl, k, os, rfl⟩
def decB (n : Int) : ByteArray := ⟨(Lib.decDigits n.toNat).toArray⟩
theorem fmtU_vc (n : Int) (hp : 0 ≤ n ∧ n ≤ 18446744073709551615) : FnOk Tryz.prog 75 [.i .u64 fun _ => n, .i .i64 fun _ => 10] [] (outA (.s fun _ => decB n) []) := by
  have fin : outA (.s fun _ => decB n) [] (.s fun _ => decB n) [] [] := by
    cbv
    repeat' first | (refine Stp.mk ?_; cbv) | (refine Gen.mk fun r hr => ?_; (try simp only [Dat.ok, Dat.dec, Leaf.ok, Leaf.val, Z0, Z1, Z2, Z3, Z4, Z5, Z6, Z7, val_sl, val_nil] at hr); cbv) | exact trivial | rfl | refine Both.mk ?_ ?_ | (refine Imp.mk fun h => ?_; (try dsimp only at h); (try simp only [nc, Int.toNat_natCast, ne_eq, zz] at h); (try simp only [nc] at h)) | refine Ob.mk ?_ ?_ | refine Chk.mk (by kernel_rfl) ?_ | refine Eq'.mk ?_ | (refine AllN.mk fun i hi => ?_; cbv) | (refine AllC.mk fun c hc hcm => ?_; (try dsimp only at hc); cbv) | (refine AllS.mk fun r hr => ?_; (try simp only [Dat.ok, Dat.dec, Leaf.ok, Leaf.val, Z0, Z1, Z2, Z3, Z4, Z5, Z6, Z7, val_sl] at hr); cbv)
  refine fnOk_kit fin fun w M β cp vs hd hA => ?_
  obtain ⟨u, v, rfl, hu, hv⟩ := repL_2 hA
  rw [rep_i hu, rep_i hv]
  have e : n = ((n.toNat : Nat) : Int) := by omega
  have h := fmt_out n.toNat (by omega) w hd.tb.1
  rw [← e] at h
  refine h.mono ?_
  rintro e w' ⟨rfl, k, os, rfl⟩
  exact ⟨_, rfl, .s _, ⟨rfl, rfl, rfl, by rw [Sort.size_grow]; exact Nat.le_add_right _ _, fun j hj => by
    show (w.heap ++ os)[j]? = _
    rw [Array.getElem?_append_left hj]⟩⟩
def fmtU_D : Det := fun A => match A with
  | [.i .u64 x, .i .i64 b] => some (fun _ => b () = 10 ∧ 0 ≤ x () ∧ x () ≤ 18446744073709551615, .s fun _ => decB (x ()))
  | _ => none
theorem fmtU_ok : PcOk Tryz.prog 75 (detPC fmtU_D) := det_okA fun A p r h hp0 => by
  unfold fmtU_D at h
  split at h
  · rename_i x b
    cases h
    obtain ⟨h1, h2⟩ := hp0
    exact ⟨rfl, FnOk.pre (A' := [.i .u64 fun _ => x (), .i .i64 fun _ => 10]) (fmtU_vc (x ()) h2) (.mk (.mk (.mk rfl) (.mk rfl)) (.mk (.mk (.mk rfl) (.mk h1)) trivial))⟩
  · cases h

end Go.Proofs.YtnjngpjkhddnfaaGreatDoor
