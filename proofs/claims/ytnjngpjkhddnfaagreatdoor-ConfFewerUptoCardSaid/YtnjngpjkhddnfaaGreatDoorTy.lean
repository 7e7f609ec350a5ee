/- The program's functions, walked: Ty. -/
import Derived.Test.YtnjngpjkhddnfaaGreatDoorAbsG4
import Derived.Test.YtnjngpjkhddnfaaGreatDoorAbsG5
import Derived.Test.YtnjngpjkhddnfaaGreatDoorRows
import Derived.KernelRfl
import Derived.JoinedCond
import Derived.WalkKit
import Derived.ProofKit
import Derived.OpenShut
import Derived.ShutString
import Derived.ChangeOld
set_option linter.all false
namespace Go.Proofs.YtnjngpjkhddnfaaGreatDoor
open Go Go.Abs
def frs : TypeId → Bool := fun t => false
def bds : FuncId → Bool := fun f => false
theorem cell_keep {w w' : World} {g : Nat} (h : w'.heap[g]? = w.heap[g]?) (k : ∃ m : Int, w.cell? ⟨g, 0, none⟩ = some (.int .i64 m)) : ∃ m : Int, w'.cell? ⟨g, 0, none⟩ = some (.int .i64 m) := by
 obtain ⟨m, hm⟩ := k
 exact ⟨m, (World.cell?_of_block h).trans hm⟩
theorem var_keep {P : Program} {w w' : World} {g : Nat} {n : String} (hg : P.globalNamed n = some g) (h : w'.heap[g]? = w.heap[g]?) (k : ∃ t p, w.var? P n = some #[.iface t p]) : ∃ t p, w'.var? P n = some #[.iface t p] := by
 obtain ⟨t, p, hm⟩ := k
 refine ⟨t, p, ?_⟩
 unfold World.var? at hm ⊢
 rw [hg] at hm ⊢
 simp only [Option.bind_some] at hm ⊢
 rw [h]; exact hm
noncomputable instance kdI : Kd := ⟨fun e => match Tryz.prog.info? e with | some i => (match i.zero with | some zv => zv.cells.toList | none => []) | none => [], fun e => !(frs e), bds, [3, 0, 4, 5], fun w => Lib.TabIs Tryz.prog w "internal/strconv.uint64pow10" .u64 Lib.pow10Tab ∧ (∃ m : Int, w.cell? ⟨0, 0, none⟩ = some (.int .i64 m)) ∧ (∃ t p, w.var? Tryz.prog "strconv.ErrSyntax" = some #[.iface t p]) ∧ (∃ t p, w.var? Tryz.prog "strconv.ErrRange" = some #[.iface t p]), fun w w' h => by
 intro ⟨h0, h1, h2, h3⟩
 exact ⟨tab_keep (g := 3) (by kernel_rfl) (h 3 (by simp)) h0, cell_keep (h 0 (by simp)) h1, var_keep (g := 4) (by kernel_rfl) (h 4 (by simp)) h2, var_keep (g := 5) (by kernel_rfl) (h 5 (by simp)) h3⟩⟩
structure U8 where
 n : Int
 deriving DecidableEq
instance leafU : Leaf U8 where
 av x := .i .u8 fun _ => (x ()).n
 val a := match a with | .i _ n => ⟨n ()⟩ | _ => ⟨0⟩
 ok a := match a with | .i .u8 _ => True | _ => False
 hclosed _ := rfl
 hval _ := rfl
 hok _ := trivial
 hle a h := by
   split at h
   · exact .mk (.mk rfl) (.mk rfl)
   · cases h
 hpick c a b h1 h2 := by
   split at h1
   · split at h2
     · refine ⟨trivial, ?_⟩
       show U8.mk (bif c () then _ else _) = _
       cases c () <;> rfl
     · cases h2
   · cases h1
instance datU : Dat U8 := Dat.ofLeaf U8 ⟨0⟩
instance sizU : Siz U8 := ⟨fun _ => True, fun _ => 1⟩
structure Span where
 frm : Int
 to : Int
 deriving DecidableEq
instance datSpan : Dat Span where
 d0 := ⟨0, 0⟩
 sz := 2
 enc x := [Leaf.av fun _ => (x ()).frm, Leaf.av fun _ => (x ()).to]
 dec l := match l with | [a0, a1] => ⟨Leaf.val a0, Leaf.val a1⟩ | _ => ⟨0, 0⟩
 ok l := match l with | [a0, a1] => Leaf.ok Int a0 ∧ Leaf.ok Int a1 | _ => False
 hlen _ := rfl
 hclosed x := by simp only [closedL, Leaf.hclosed]
 hdec x := by simp only [Leaf.hval]
 hok x := ⟨Leaf.hok _, Leaf.hok _⟩
 hle l h := by
   split at h
   · obtain ⟨k0, k1⟩ := h
     exact .mk (Leaf.hle _ k0) (.mk (Leaf.hle _ k1) (trivial))
   · cases h
 hpick c l m h1 h2 := by
   split at h1
   · split at h2
     · obtain ⟨k0, k1⟩ := h1
       obtain ⟨j0, j1⟩ := h2
       refine ⟨⟨(Leaf.hpick c _ _ k0 j0).1, (Leaf.hpick c _ _ k1 j1).1⟩, ?_⟩
       have e := (fun (u : Bool) => rfl : ∀ u : Bool, u = u)
       simp only [rowL, nth, dropN, (Leaf.hpick c _ _ k0 j0).2, (Leaf.hpick c _ _ k1 j1).2]
       cases c () <;> rfl
     · cases h2
   · cases h1
instance sizSpan : Siz Span := ⟨fun x => Siz.fit x.frm ∧ Siz.fit x.to, fun x => Siz.bulk x.frm + Siz.bulk x.to + 1⟩
theorem Z0 (x : Span) : (⟨x.frm, x.to⟩ : Span) = x := rfl
theorem Span.one_le (x : Span) : 1 ≤ Siz.bulk x := Nat.le_add_left _ _
structure Set where
 size : Int
 spans : (List Span)
 deriving DecidableEq
instance datSet : Dat Set where
 d0 := ⟨0, []⟩
 sz := 2
 enc x := [Leaf.av fun _ => (x ()).size, Leaf.av fun _ => (x ()).spans]
 dec l := match l with | [a0, a1] => ⟨Leaf.val a0, Leaf.val a1⟩ | _ => ⟨0, []⟩
 ok l := match l with | [a0, a1] => Leaf.ok Int a0 ∧ Leaf.ok (List Span) a1 | _ => False
 hlen _ := rfl
 hclosed x := by simp only [closedL, Leaf.hclosed]
 hdec x := by simp only [Leaf.hval]
 hok x := ⟨Leaf.hok _, Leaf.hok _⟩
 hle l h := by
   split at h
   · obtain ⟨k0, k1⟩ := h
     exact .mk (Leaf.hle _ k0) (.mk (Leaf.hle _ k1) (trivial))
   · cases h
 hpick c l m h1 h2 := by
   split at h1
   · split at h2
     · obtain ⟨k0, k1⟩ := h1
       obtain ⟨j0, j1⟩ := h2
       refine ⟨⟨(Leaf.hpick c _ _ k0 j0).1, (Leaf.hpick c _ _ k1 j1).1⟩, ?_⟩
       have e := (fun (u : Bool) => rfl : ∀ u : Bool, u = u)
       simp only [rowL, nth, dropN, (Leaf.hpick c _ _ k0 j0).2, (Leaf.hpick c _ _ k1 j1).2]
       cases c () <;> rfl
     · cases h2
   · cases h1
instance sizSet : Siz Set := ⟨fun x => Siz.fit x.size ∧ Siz.fit x.spans, fun x => Siz.bulk x.size + Siz.bulk x.spans + 1⟩
theorem Z1 (x : Set) : (⟨x.size, x.spans⟩ : Set) = x := rfl
theorem Set.one_le (x : Set) : 1 ≤ Siz.bulk x := Nat.le_add_left _ _
structure Window where
 frm : Int
 long : Int
 owner : Int
 deriving DecidableEq
instance datWindow : Dat Window where
 d0 := ⟨0, 0, 0⟩
 sz := 3
 enc x := [Leaf.av fun _ => (x ()).frm, Leaf.av fun _ => (x ()).long, Leaf.av fun _ => (x ()).owner]
 dec l := match l with | [a0, a1, a2] => ⟨Leaf.val a0, Leaf.val a1, Leaf.val a2⟩ | _ => ⟨0, 0, 0⟩
 ok l := match l with | [a0, a1, a2] => Leaf.ok Int a0 ∧ Leaf.ok Int a1 ∧ Leaf.ok Int a2 | _ => False
 hlen _ := rfl
 hclosed x := by simp only [closedL, Leaf.hclosed]
 hdec x := by simp only [Leaf.hval]
 hok x := ⟨Leaf.hok _, Leaf.hok _, Leaf.hok _⟩
 hle l h := by
   split at h
   · obtain ⟨k0, k1, k2⟩ := h
     exact .mk (Leaf.hle _ k0) (.mk (Leaf.hle _ k1) (.mk (Leaf.hle _ k2) (trivial)))
   · cases h
 hpick c l m h1 h2 := by
   split at h1
   · split at h2
     · obtain ⟨k0, k1, k2⟩ := h1
       obtain ⟨j0, j1, j2⟩ := h2
       refine ⟨⟨(Leaf.hpick c _ _ k0 j0).1, (Leaf.hpick c _ _ k1 j1).1, (Leaf.hpick c _ _ k2 j2).1⟩, ?_⟩
       have e := (fun (u : Bool) => rfl : ∀ u : Bool, u = u)
       simp only [rowL, nth, dropN, (Leaf.hpick c _ _ k0 j0).2, (Leaf.hpick c _ _ k1 j1).2, (Leaf.hpick c _ _ k2 j2).2]
       cases c () <;> rfl
     · cases h2
   · cases h1
instance sizWindow : Siz Window := ⟨fun x => Siz.fit x.frm ∧ Siz.fit x.long ∧ Siz.fit x.owner, fun x => Siz.bulk x.frm + Siz.bulk x.long + Siz.bulk x.owner + 1⟩
theorem Z2 (x : Window) : (⟨x.frm, x.long, x.owner⟩ : Window) = x := rfl
theorem Window.one_le (x : Window) : 1 ≤ Siz.bulk x := Nat.le_add_left _ _
structure Table where
 frame : Int
 windows : (List Window)
 deriving DecidableEq
instance datTable : Dat Table where
 d0 := ⟨0, []⟩
 sz := 2
 enc x := [Leaf.av fun _ => (x ()).frame, Leaf.av fun _ => (x ()).windows]
 dec l := match l with | [a0, a1] => ⟨Leaf.val a0, Leaf.val a1⟩ | _ => ⟨0, []⟩
 ok l := match l with | [a0, a1] => Leaf.ok Int a0 ∧ Leaf.ok (List Window) a1 | _ => False
 hlen _ := rfl
 hclosed x := by simp only [closedL, Leaf.hclosed]
 hdec x := by simp only [Leaf.hval]
 hok x := ⟨Leaf.hok _, Leaf.hok _⟩
 hle l h := by
   split at h
   · obtain ⟨k0, k1⟩ := h
     exact .mk (Leaf.hle _ k0) (.mk (Leaf.hle _ k1) (trivial))
   · cases h
 hpick c l m h1 h2 := by
   split at h1
   · split at h2
     · obtain ⟨k0, k1⟩ := h1
       obtain ⟨j0, j1⟩ := h2
       refine ⟨⟨(Leaf.hpick c _ _ k0 j0).1, (Leaf.hpick c _ _ k1 j1).1⟩, ?_⟩
       have e := (fun (u : Bool) => rfl : ∀ u : Bool, u = u)
       simp only [rowL, nth, dropN, (Leaf.hpick c _ _ k0 j0).2, (Leaf.hpick c _ _ k1 j1).2]
       cases c () <;> rfl
     · cases h2
   · cases h1
instance sizTable : Siz Table := ⟨fun x => Siz.fit x.frame ∧ Siz.fit x.windows, fun x => Siz.bulk x.frame + Siz.bulk x.windows + 1⟩
theorem Z3 (x : Table) : (⟨x.frame, x.windows⟩ : Table) = x := rfl
theorem Table.one_le (x : Table) : 1 ≤ Siz.bulk x := Nat.le_add_left _ _
structure Want where
 owner : Int
 frm : Int
 long : Int
 every : Int
 deriving DecidableEq
instance datWant : Dat Want where
 d0 := ⟨0, 0, 0, 0⟩
 sz := 4
 enc x := [Leaf.av fun _ => (x ()).owner, Leaf.av fun _ => (x ()).frm, Leaf.av fun _ => (x ()).long, Leaf.av fun _ => (x ()).every]
 dec l := match l with | [a0, a1, a2, a3] => ⟨Leaf.val a0, Leaf.val a1, Leaf.val a2, Leaf.val a3⟩ | _ => ⟨0, 0, 0, 0⟩
 ok l := match l with | [a0, a1, a2, a3] => Leaf.ok Int a0 ∧ Leaf.ok Int a1 ∧ Leaf.ok Int a2 ∧ Leaf.ok Int a3 | _ => False
 hlen _ := rfl
 hclosed x := by simp only [closedL, Leaf.hclosed]
 hdec x := by simp only [Leaf.hval]
 hok x := ⟨Leaf.hok _, Leaf.hok _, Leaf.hok _, Leaf.hok _⟩
 hle l h := by
   split at h
   · obtain ⟨k0, k1, k2, k3⟩ := h
     exact .mk (Leaf.hle _ k0) (.mk (Leaf.hle _ k1) (.mk (Leaf.hle _ k2) (.mk (Leaf.hle _ k3) (trivial))))
   · cases h
 hpick c l m h1 h2 := by
   split at h1
   · split at h2
     · obtain ⟨k0, k1, k2, k3⟩ := h1
       obtain ⟨j0, j1, j2, j3⟩ := h2
       refine ⟨⟨(Leaf.hpick c _ _ k0 j0).1, (Leaf.hpick c _ _ k1 j1).1, (Leaf.hpick c _ _ k2 j2).1, (Leaf.hpick c _ _ k3 j3).1⟩, ?_⟩
       have e := (fun (u : Bool) => rfl : ∀ u : Bool, u = u)
       simp only [rowL, nth, dropN, (Leaf.hpick c _ _ k0 j0).2, (Leaf.hpick c _ _ k1 j1).2, (Leaf.hpick c _ _ k2 j2).2, (Leaf.hpick c _ _ k3 j3).2]
       cases c () <;> rfl
     · cases h2
   · cases h1
instance sizWant : Siz Want := ⟨fun x => Siz.fit x.owner ∧ Siz.fit x.frm ∧ Siz.fit x.long ∧ Siz.fit x.every, fun x => Siz.bulk x.owner + Siz.bulk x.frm + Siz.bulk x.long + Siz.bulk x.every + 1⟩
theorem Z4 (x : Want) : (⟨x.owner, x.frm, x.long, x.every⟩ : Want) = x := rfl
theorem Want.one_le (x : Want) : 1 ≤ Siz.bulk x := Nat.le_add_left _ _
structure Task where
 long : Int
 every : Int
 due : Int
 deriving DecidableEq
instance datTask : Dat Task where
 d0 := ⟨0, 0, 0⟩
 sz := 3
 enc x := [Leaf.av fun _ => (x ()).long, Leaf.av fun _ => (x ()).every, Leaf.av fun _ => (x ()).due]
 dec l := match l with | [a0, a1, a2] => ⟨Leaf.val a0, Leaf.val a1, Leaf.val a2⟩ | _ => ⟨0, 0, 0⟩
 ok l := match l with | [a0, a1, a2] => Leaf.ok Int a0 ∧ Leaf.ok Int a1 ∧ Leaf.ok Int a2 | _ => False
 hlen _ := rfl
 hclosed x := by simp only [closedL, Leaf.hclosed]
 hdec x := by simp only [Leaf.hval]
 hok x := ⟨Leaf.hok _, Leaf.hok _, Leaf.hok _⟩
 hle l h := by
   split at h
   · obtain ⟨k0, k1, k2⟩ := h
     exact .mk (Leaf.hle _ k0) (.mk (Leaf.hle _ k1) (.mk (Leaf.hle _ k2) (trivial)))
   · cases h
 hpick c l m h1 h2 := by
   split at h1
   · split at h2
     · obtain ⟨k0, k1, k2⟩ := h1
       obtain ⟨j0, j1, j2⟩ := h2
       refine ⟨⟨(Leaf.hpick c _ _ k0 j0).1, (Leaf.hpick c _ _ k1 j1).1, (Leaf.hpick c _ _ k2 j2).1⟩, ?_⟩
       have e := (fun (u : Bool) => rfl : ∀ u : Bool, u = u)
       simp only [rowL, nth, dropN, (Leaf.hpick c _ _ k0 j0).2, (Leaf.hpick c _ _ k1 j1).2, (Leaf.hpick c _ _ k2 j2).2]
       cases c () <;> rfl
     · cases h2
   · cases h1
instance sizTask : Siz Task := ⟨fun x => Siz.fit x.long ∧ Siz.fit x.every ∧ Siz.fit x.due, fun x => Siz.bulk x.long + Siz.bulk x.every + Siz.bulk x.due + 1⟩
theorem Z5 (x : Task) : (⟨x.long, x.every, x.due⟩ : Task) = x := rfl
theorem Task.one_le (x : Task) : 1 ≤ Siz.bulk x := Nat.le_add_left _ _
structure PlanJob where
 owner : Int
 task : Task
 deriving DecidableEq
instance datPlanJob : Dat PlanJob where
 d0 := ⟨0, ⟨0, 0, 0⟩⟩
 sz := 4
 enc x := [Leaf.av fun _ => (x ()).owner, Leaf.av fun _ => (x ()).task.long, Leaf.av fun _ => (x ()).task.every, Leaf.av fun _ => (x ()).task.due]
 dec l := match l with | [a0, a1, a2, a3] => ⟨Leaf.val a0, ⟨Leaf.val a1, Leaf.val a2, Leaf.val a3⟩⟩ | _ => ⟨0, ⟨0, 0, 0⟩⟩
 ok l := match l with | [a0, a1, a2, a3] => Leaf.ok Int a0 ∧ Leaf.ok Int a1 ∧ Leaf.ok Int a2 ∧ Leaf.ok Int a3 | _ => False
 hlen _ := rfl
 hclosed x := by simp only [closedL, Leaf.hclosed]
 hdec x := by simp only [Leaf.hval]
 hok x := ⟨Leaf.hok _, Leaf.hok _, Leaf.hok _, Leaf.hok _⟩
 hle l h := by
   split at h
   · obtain ⟨k0, k1, k2, k3⟩ := h
     exact .mk (Leaf.hle _ k0) (.mk (Leaf.hle _ k1) (.mk (Leaf.hle _ k2) (.mk (Leaf.hle _ k3) (trivial))))
   · cases h
 hpick c l m h1 h2 := by
   split at h1
   · split at h2
     · obtain ⟨k0, k1, k2, k3⟩ := h1
       obtain ⟨j0, j1, j2, j3⟩ := h2
       refine ⟨⟨(Leaf.hpick c _ _ k0 j0).1, (Leaf.hpick c _ _ k1 j1).1, (Leaf.hpick c _ _ k2 j2).1, (Leaf.hpick c _ _ k3 j3).1⟩, ?_⟩
       have e := (fun (u : Bool) => rfl : ∀ u : Bool, u = u)
       simp only [rowL, nth, dropN, (Leaf.hpick c _ _ k0 j0).2, (Leaf.hpick c _ _ k1 j1).2, (Leaf.hpick c _ _ k2 j2).2, (Leaf.hpick c _ _ k3 j3).2]
       cases c () <;> rfl
     · cases h2
   · cases h1
instance sizPlanJob : Siz PlanJob := ⟨fun x => Siz.fit x.owner ∧ Siz.fit x.task, fun x => Siz.bulk x.owner + Siz.bulk x.task + 1⟩
theorem Z6 (x : PlanJob) : (⟨x.owner, x.task⟩ : PlanJob) = x := rfl
theorem PlanJob.one_le (x : PlanJob) : 1 ≤ Siz.bulk x := Nat.le_add_left _ _
structure Plan where
 frame : Int
 wants : (List Want)
 jobs : (List PlanJob)
 deriving DecidableEq
instance datPlan : Dat Plan where
 d0 := ⟨0, [], []⟩
 sz := 3
 enc x := [Leaf.av fun _ => (x ()).frame, Leaf.av fun _ => (x ()).wants, Leaf.av fun _ => (x ()).jobs]
 dec l := match l with | [a0, a1, a2] => ⟨Leaf.val a0, Leaf.val a1, Leaf.val a2⟩ | _ => ⟨0, [], []⟩
 ok l := match l with | [a0, a1, a2] => Leaf.ok Int a0 ∧ Leaf.ok (List Want) a1 ∧ Leaf.ok (List PlanJob) a2 | _ => False
 hlen _ := rfl
 hclosed x := by simp only [closedL, Leaf.hclosed]
 hdec x := by simp only [Leaf.hval]
 hok x := ⟨Leaf.hok _, Leaf.hok _, Leaf.hok _⟩
 hle l h := by
   split at h
   · obtain ⟨k0, k1, k2⟩ := h
     exact .mk (Leaf.hle _ k0) (.mk (Leaf.hle _ k1) (.mk (Leaf.hle _ k2) (trivial)))
   · cases h
 hpick c l m h1 h2 := by
   split at h1
   · split at h2
     · obtain ⟨k0, k1, k2⟩ := h1
       obtain ⟨j0, j1, j2⟩ := h2
       refine ⟨⟨(Leaf.hpick c _ _ k0 j0).1, (Leaf.hpick c _ _ k1 j1).1, (Leaf.hpick c _ _ k2 j2).1⟩, ?_⟩
       have e := (fun (u : Bool) => rfl : ∀ u : Bool, u = u)
       simp only [rowL, nth, dropN, (Leaf.hpick c _ _ k0 j0).2, (Leaf.hpick c _ _ k1 j1).2, (Leaf.hpick c _ _ k2 j2).2]
       cases c () <;> rfl
     · cases h2
   · cases h1
instance sizPlan : Siz Plan := ⟨fun x => Siz.fit x.frame ∧ Siz.fit x.wants ∧ Siz.fit x.jobs, fun x => Siz.bulk x.frame + Siz.bulk x.wants + Siz.bulk x.jobs + 1⟩
theorem Z7 (x : Plan) : (⟨x.frame, x.wants, x.jobs⟩ : Plan) = x := rfl
theorem Plan.one_le (x : Plan) : 1 ≤ Siz.bulk x := Nat.le_add_left _ _
noncomputable def tys : TypeId → Ty := fun t => match t with
 | 2 => .int .i64
 | 3 => .int .i64
 | 4 => .bool
 | 5 => .int .u8
 | 9 => .str
 | 12 => .int .u64
 | 13 => .struct none [(0, 9, 1), (1, 12, 1)] 2 [.s fun _ => .empty, .i .u64 fun _ => 0]
 | 21 => .int .i32
 | 22 => .slice 28 4 32 [.i .i64 fun _ => 0, .i .i64 fun _ => 0, .i .i64 fun _ => 0, .i .i64 fun _ => 0]
 | 23 => .slice 33 4 32 [.i .i64 fun _ => 0, .i .i64 fun _ => 0, .i .i64 fun _ => 0, .i .i64 fun _ => 0]
 | 24 => .struct none [(0, 3, 1), (1, 22, 1), (2, 23, 1)] 3 [.i .i64 fun _ => 0, .nil, .nil]
 | 25 => .struct none [(0, 3, 1), (1, 22, 1), (2, 23, 1)] 3 [.i .i64 fun _ => 0, .nil, .nil]
 | 27 => .struct (some [.i, .i, .i, .i]) [(0, 3, 1), (1, 3, 1), (2, 3, 1), (3, 3, 1)] 4 [.i .i64 fun _ => 0, .i .i64 fun _ => 0, .i .i64 fun _ => 0, .i .i64 fun _ => 0]
 | 28 => .struct (some [.i, .i, .i, .i]) [(0, 3, 1), (1, 3, 1), (2, 3, 1), (3, 3, 1)] 4 [.i .i64 fun _ => 0, .i .i64 fun _ => 0, .i .i64 fun _ => 0, .i .i64 fun _ => 0]
 | 30 => .struct (some [.i, .i, .i]) [(0, 3, 1), (1, 3, 1), (2, 3, 1)] 3 [.i .i64 fun _ => 0, .i .i64 fun _ => 0, .i .i64 fun _ => 0]
 | 31 => .struct (some [.i, .i, .i]) [(0, 3, 1), (1, 3, 1), (2, 3, 1)] 3 [.i .i64 fun _ => 0, .i .i64 fun _ => 0, .i .i64 fun _ => 0]
 | 32 => .struct (some [.i, .i, .i, .i]) [(0, 3, 1), (1, 31, 3)] 4 [.i .i64 fun _ => 0, .i .i64 fun _ => 0, .i .i64 fun _ => 0, .i .i64 fun _ => 0]
 | 33 => .struct (some [.i, .i, .i, .i]) [(0, 3, 1), (1, 31, 3)] 4 [.i .i64 fun _ => 0, .i .i64 fun _ => 0, .i .i64 fun _ => 0, .i .i64 fun _ => 0]
 | 34 => .slice 42 3 24 [.i .i64 fun _ => 0, .i .i64 fun _ => 0, .i .i64 fun _ => 0]
 | 35 => .struct none [(0, 3, 1), (1, 34, 1)] 2 [.i .i64 fun _ => 0, .nil]
 | 36 => .struct none [(0, 3, 1), (1, 34, 1)] 2 [.i .i64 fun _ => 0, .nil]
 | 37 => .slice 4 1 1 [.bc false]
 | 38 => .int .i64
 | 41 => .struct (some [.i, .i, .i]) [(0, 3, 1), (1, 3, 1), (2, 3, 1)] 3 [.i .i64 fun _ => 0, .i .i64 fun _ => 0, .i .i64 fun _ => 0]
 | 42 => .struct (some [.i, .i, .i]) [(0, 3, 1), (1, 3, 1), (2, 3, 1)] 3 [.i .i64 fun _ => 0, .i .i64 fun _ => 0, .i .i64 fun _ => 0]
 | 43 => .one
 | 46 => .one
 | 48 => .one
 | 50 => .one
 | 55 => .one
 | 56 => .one
 | 57 => .slice 9 1 16 [.s fun _ => .empty]
 | 60 => .one
 | 64 => .slice 31 3 24 [.i .i64 fun _ => 0, .i .i64 fun _ => 0, .i .i64 fun _ => 0]
 | 65 => .slice 99 2 16 [.i .i64 fun _ => 0, .i .i64 fun _ => 0]
 | 66 => .struct none [(0, 3, 1), (1, 65, 1)] 2 [.i .i64 fun _ => 0, .nil]
 | 67 => .struct none [(0, 3, 1), (1, 65, 1)] 2 [.i .i64 fun _ => 0, .nil]
 | 74 => .struct none [(0, 25, 3), (3, 3, 1)] 4 [.i .i64 fun _ => 0, .nil, .nil, .i .i64 fun _ => 0]
 | 75 => .struct none [(0, 25, 3), (3, 3, 1)] 4 [.i .i64 fun _ => 0, .nil, .nil, .i .i64 fun _ => 0]
 | 77 => .one
 | 80 => .one
 | 81 => .slice 5 1 1 [.i .u8 fun _ => 0]
 | 82 => .struct none [(0, 80, 1), (1, 81, 1)] 2 [.con fun _ => .pointer none, .nil]
 | 83 => .struct none [(0, 80, 1), (1, 81, 1)] 2 [.con fun _ => .pointer none, .nil]
 | 90 => .one
 | 91 => .one
 | 93 => .one
 | 95 => .one
 | 96 => .one
 | 98 => .struct (some [.i, .i]) [(0, 3, 1), (1, 3, 1)] 2 [.i .i64 fun _ => 0, .i .i64 fun _ => 0]
 | 99 => .struct (some [.i, .i]) [(0, 3, 1), (1, 3, 1)] 2 [.i .i64 fun _ => 0, .i .i64 fun _ => 0]
 | 105 => .slice 3 1 8 [.i .i64 fun _ => 0]
 | 111 => .one
 | 115 => .one
 | 119 => .one
 | 120 => .int .u64
 | 123 => .one
 | 124 => .one
 | 128 => .int .u64
 | 132 => .one
 | 135 => .one
 | 141 => .int .i64
 | 148 => .one
 | 149 => .int .u32
 | 150 => .one
 | 156 => .one
 | 157 => .int .u64
 | 161 => .one
 | 171 => .one
 | 174 => .one
 | 181 => .one
 | 185 => .struct none [(0, 5, 1), (1, 5, 1)] 2 [.i .u8 fun _ => 0, .i .u8 fun _ => 0]
 | 186 => .struct none [(0, 5, 1), (1, 5, 1)] 2 [.i .u8 fun _ => 0, .i .u8 fun _ => 0]
 | 190 => .one
 | 197 => .one
 | 206 => .one
 | 207 => .struct (some [.s]) [(0, 9, 1)] 1 [.s fun _ => .empty]
 | 208 => .struct (some [.s]) [(0, 9, 1)] 1 [.s fun _ => .empty]
 | 216 => .one
 | 219 => .one
 | _ => .other
noncomputable def ars : TypeId → Option Arr := fun t => match t with
 | _ => none
def erns : TypeId → Bool := fun t => match t with | 86 => true | _ => false
set_option maxRecDepth 100000
theorem ernsOk : ∀ t, erns t = true → ∃ ms, Tryz.prog.underlying t = some (.interface ms) := fun t h => by
 unfold erns at h
 split at h
 · exact ⟨_, rfl⟩
 · cases h
def mts : TypeId → String → Option FuncId := fun t n => match t with
 | 9 => none
 | 179 => none
 | 181 => none
 | 206 => none
 | _ => none
def nifs : TypeId → Bool := fun t => match t with
 | 9 => true
 | 179 => true
 | 181 => true
 | 206 => true
 | _ => false
noncomputable def E : Env := { ty := tys, ar := ars, fr := frs, bd := bds, ern := erns, mt := mts, nif := nifs }
noncomputable def Ew (w : List Nat) : Env := { ty := tys, wr := w, ar := ars, fr := frs, bd := bds, ern := erns, mt := mts, nif := nifs }
set_option maxRecDepth 100000
theorem envOkW (w : List Nat) : EnvOk Tryz.prog (Ew w) := ⟨fun t => by
 show TyOk Tryz.prog t (tys t)
 unfold tys
 split
 · exact ⟨rfl, _, rfl, rfl, _, rfl, rfl, rfl⟩
 · exact ⟨rfl, _, rfl, rfl, _, rfl, rfl, rfl⟩
 · exact ⟨rfl, _, rfl, rfl, _, rfl, rfl, rfl⟩
 · exact ⟨rfl, _, rfl, rfl, _, rfl, rfl, rfl⟩
 · exact ⟨rfl, _, rfl, rfl, _, rfl, rfl, rfl⟩
 · exact ⟨rfl, _, rfl, rfl, _, rfl, rfl, rfl⟩
 · exact ⟨⟨_, rfl, by kernel_rfl, fun ks h => by cases h⟩, ⟨_, rfl, rfl, _, rfl, rfl, rfl⟩⟩
 · exact ⟨rfl, _, rfl, rfl, _, rfl, rfl, rfl⟩
 · exact ⟨rfl, by omega, by omega, ⟨_, rfl, rfl, _, rfl, rfl, rfl⟩, rfl, ⟨_, rfl, rfl, _, rfl, rfl, rfl⟩, kdOf_at _ _ _ _ _ _ _⟩
 · exact ⟨rfl, by omega, by omega, ⟨_, rfl, rfl, _, rfl, rfl, rfl⟩, rfl, ⟨_, rfl, rfl, _, rfl, rfl, rfl⟩, kdOf_at _ _ _ _ _ _ _⟩
 · exact ⟨⟨_, rfl, by kernel_rfl, fun ks h => by cases h⟩, ⟨_, rfl, rfl, _, rfl, rfl, rfl⟩⟩
 · exact ⟨⟨_, rfl, by kernel_rfl, fun ks h => by cases h⟩, ⟨_, rfl, rfl, _, rfl, rfl, rfl⟩⟩
 · exact ⟨⟨_, rfl, by kernel_rfl, fun ks h => by cases h; exact ⟨by kernel_rfl, by kernel_rfl, by kernel_rfl⟩⟩, ⟨_, rfl, rfl, _, rfl, rfl, rfl⟩⟩
 · exact ⟨⟨_, rfl, by kernel_rfl, fun ks h => by cases h; exact ⟨by kernel_rfl, by kernel_rfl, by kernel_rfl⟩⟩, ⟨_, rfl, rfl, _, rfl, rfl, rfl⟩⟩
 · exact ⟨⟨_, rfl, by kernel_rfl, fun ks h => by cases h; exact ⟨by kernel_rfl, by kernel_rfl, by kernel_rfl⟩⟩, ⟨_, rfl, rfl, _, rfl, rfl, rfl⟩⟩
 · exact ⟨⟨_, rfl, by kernel_rfl, fun ks h => by cases h; exact ⟨by kernel_rfl, by kernel_rfl, by kernel_rfl⟩⟩, ⟨_, rfl, rfl, _, rfl, rfl, rfl⟩⟩
 · exact ⟨⟨_, rfl, by kernel_rfl, fun ks h => by cases h; exact ⟨by kernel_rfl, by kernel_rfl, by kernel_rfl⟩⟩, ⟨_, rfl, rfl, _, rfl, rfl, rfl⟩⟩
 · exact ⟨⟨_, rfl, by kernel_rfl, fun ks h => by cases h; exact ⟨by kernel_rfl, by kernel_rfl, by kernel_rfl⟩⟩, ⟨_, rfl, rfl, _, rfl, rfl, rfl⟩⟩
 · exact ⟨rfl, by omega, by omega, ⟨_, rfl, rfl, _, rfl, rfl, rfl⟩, rfl, ⟨_, rfl, rfl, _, rfl, rfl, rfl⟩, kdOf_at _ _ _ _ _ _ _⟩
 · exact ⟨⟨_, rfl, by kernel_rfl, fun ks h => by cases h⟩, ⟨_, rfl, rfl, _, rfl, rfl, rfl⟩⟩
 · exact ⟨⟨_, rfl, by kernel_rfl, fun ks h => by cases h⟩, ⟨_, rfl, rfl, _, rfl, rfl, rfl⟩⟩
 · exact ⟨rfl, by omega, by omega, ⟨_, rfl, rfl, _, rfl, rfl, rfl⟩, rfl, ⟨_, rfl, rfl, _, rfl, rfl, rfl⟩, kdOf_at _ _ _ _ _ _ _⟩
 · exact ⟨rfl, _, rfl, rfl, _, rfl, rfl, rfl⟩
 · exact ⟨⟨_, rfl, by kernel_rfl, fun ks h => by cases h; exact ⟨by kernel_rfl, by kernel_rfl, by kernel_rfl⟩⟩, ⟨_, rfl, rfl, _, rfl, rfl, rfl⟩⟩
 · exact ⟨⟨_, rfl, by kernel_rfl, fun ks h => by cases h; exact ⟨by kernel_rfl, by kernel_rfl, by kernel_rfl⟩⟩, ⟨_, rfl, rfl, _, rfl, rfl, rfl⟩⟩
 · exact ⟨⟨_, rfl, rfl⟩, _, ⟨_, rfl, rfl, _, rfl, rfl, rfl⟩⟩
 · exact ⟨⟨_, rfl, rfl⟩, _, ⟨_, rfl, rfl, _, rfl, rfl, rfl⟩⟩
 · exact ⟨⟨_, rfl, rfl⟩, _, ⟨_, rfl, rfl, _, rfl, rfl, rfl⟩⟩
 · exact ⟨⟨_, rfl, rfl⟩, _, ⟨_, rfl, rfl, _, rfl, rfl, rfl⟩⟩
 · exact ⟨⟨_, rfl, rfl⟩, _, ⟨_, rfl, rfl, _, rfl, rfl, rfl⟩⟩
 · exact ⟨⟨_, rfl, rfl⟩, _, ⟨_, rfl, rfl, _, rfl, rfl, rfl⟩⟩
 · exact ⟨rfl, by omega, by omega, ⟨_, rfl, rfl, _, rfl, rfl, rfl⟩, rfl, ⟨_, rfl, rfl, _, rfl, rfl, rfl⟩, kdOf_at _ _ _ _ _ _ _⟩
 · exact ⟨⟨_, rfl, rfl⟩, _, ⟨_, rfl, rfl, _, rfl, rfl, rfl⟩⟩
 · exact ⟨rfl, by omega, by omega, ⟨_, rfl, rfl, _, rfl, rfl, rfl⟩, rfl, ⟨_, rfl, rfl, _, rfl, rfl, rfl⟩, kdOf_at _ _ _ _ _ _ _⟩
 · exact ⟨rfl, by omega, by omega, ⟨_, rfl, rfl, _, rfl, rfl, rfl⟩, rfl, ⟨_, rfl, rfl, _, rfl, rfl, rfl⟩, kdOf_at _ _ _ _ _ _ _⟩
 · exact ⟨⟨_, rfl, by kernel_rfl, fun ks h => by cases h⟩, ⟨_, rfl, rfl, _, rfl, rfl, rfl⟩⟩
 · exact ⟨⟨_, rfl, by kernel_rfl, fun ks h => by cases h⟩, ⟨_, rfl, rfl, _, rfl, rfl, rfl⟩⟩
 · exact ⟨⟨_, rfl, by kernel_rfl, fun ks h => by cases h⟩, ⟨_, rfl, rfl, _, rfl, rfl, rfl⟩⟩
 · exact ⟨⟨_, rfl, by kernel_rfl, fun ks h => by cases h⟩, ⟨_, rfl, rfl, _, rfl, rfl, rfl⟩⟩
 · exact ⟨⟨_, rfl, rfl⟩, _, ⟨_, rfl, rfl, _, rfl, rfl, rfl⟩⟩
 · exact ⟨⟨_, rfl, rfl⟩, _, ⟨_, rfl, rfl, _, rfl, rfl, rfl⟩⟩
 · exact ⟨rfl, by omega, by omega, ⟨_, rfl, rfl, _, rfl, rfl, rfl⟩, rfl, ⟨_, rfl, rfl, _, rfl, rfl, rfl⟩, kdOf_at _ _ _ _ _ _ _⟩
 · exact ⟨⟨_, rfl, by kernel_rfl, fun ks h => by cases h⟩, ⟨_, rfl, rfl, _, rfl, rfl, rfl⟩⟩
 · exact ⟨⟨_, rfl, by kernel_rfl, fun ks h => by cases h⟩, ⟨_, rfl, rfl, _, rfl, rfl, rfl⟩⟩
 · exact ⟨⟨_, rfl, rfl⟩, _, ⟨_, rfl, rfl, _, rfl, rfl, rfl⟩⟩
 · exact ⟨⟨_, rfl, rfl⟩, _, ⟨_, rfl, rfl, _, rfl, rfl, rfl⟩⟩
 · exact ⟨⟨_, rfl, rfl⟩, _, ⟨_, rfl, rfl, _, rfl, rfl, rfl⟩⟩
 · exact ⟨⟨_, rfl, rfl⟩, _, ⟨_, rfl, rfl, _, rfl, rfl, rfl⟩⟩
 · exact ⟨⟨_, rfl, rfl⟩, _, ⟨_, rfl, rfl, _, rfl, rfl, rfl⟩⟩
 · exact ⟨⟨_, rfl, by kernel_rfl, fun ks h => by cases h; exact ⟨by kernel_rfl, by kernel_rfl, by kernel_rfl⟩⟩, ⟨_, rfl, rfl, _, rfl, rfl, rfl⟩⟩
 · exact ⟨⟨_, rfl, by kernel_rfl, fun ks h => by cases h; exact ⟨by kernel_rfl, by kernel_rfl, by kernel_rfl⟩⟩, ⟨_, rfl, rfl, _, rfl, rfl, rfl⟩⟩
 · exact ⟨rfl, by omega, by omega, ⟨_, rfl, rfl, _, rfl, rfl, rfl⟩, rfl, ⟨_, rfl, rfl, _, rfl, rfl, rfl⟩, kdOf_at _ _ _ _ _ _ _⟩
 · exact ⟨⟨_, rfl, rfl⟩, _, ⟨_, rfl, rfl, _, rfl, rfl, rfl⟩⟩
 · exact ⟨⟨_, rfl, rfl⟩, _, ⟨_, rfl, rfl, _, rfl, rfl, rfl⟩⟩
 · exact ⟨⟨_, rfl, rfl⟩, _, ⟨_, rfl, rfl, _, rfl, rfl, rfl⟩⟩
 · exact ⟨rfl, _, rfl, rfl, _, rfl, rfl, rfl⟩
 · exact ⟨⟨_, rfl, rfl⟩, _, ⟨_, rfl, rfl, _, rfl, rfl, rfl⟩⟩
 · exact ⟨⟨_, rfl, rfl⟩, _, ⟨_, rfl, rfl, _, rfl, rfl, rfl⟩⟩
 · exact ⟨rfl, _, rfl, rfl, _, rfl, rfl, rfl⟩
 · exact ⟨⟨_, rfl, rfl⟩, _, ⟨_, rfl, rfl, _, rfl, rfl, rfl⟩⟩
 · exact ⟨⟨_, rfl, rfl⟩, _, ⟨_, rfl, rfl, _, rfl, rfl, rfl⟩⟩
 · exact ⟨rfl, _, rfl, rfl, _, rfl, rfl, rfl⟩
 · exact ⟨⟨_, rfl, rfl⟩, _, ⟨_, rfl, rfl, _, rfl, rfl, rfl⟩⟩
 · exact ⟨rfl, _, rfl, rfl, _, rfl, rfl, rfl⟩
 · exact ⟨⟨_, rfl, rfl⟩, _, ⟨_, rfl, rfl, _, rfl, rfl, rfl⟩⟩
 · exact ⟨⟨_, rfl, rfl⟩, _, ⟨_, rfl, rfl, _, rfl, rfl, rfl⟩⟩
 · exact ⟨rfl, _, rfl, rfl, _, rfl, rfl, rfl⟩
 · exact ⟨⟨_, rfl, rfl⟩, _, ⟨_, rfl, rfl, _, rfl, rfl, rfl⟩⟩
 · exact ⟨⟨_, rfl, rfl⟩, _, ⟨_, rfl, rfl, _, rfl, rfl, rfl⟩⟩
 · exact ⟨⟨_, rfl, rfl⟩, _, ⟨_, rfl, rfl, _, rfl, rfl, rfl⟩⟩
 · exact ⟨⟨_, rfl, rfl⟩, _, ⟨_, rfl, rfl, _, rfl, rfl, rfl⟩⟩
 · exact ⟨⟨_, rfl, by kernel_rfl, fun ks h => by cases h⟩, ⟨_, rfl, rfl, _, rfl, rfl, rfl⟩⟩
 · exact ⟨⟨_, rfl, by kernel_rfl, fun ks h => by cases h⟩, ⟨_, rfl, rfl, _, rfl, rfl, rfl⟩⟩
 · exact ⟨⟨_, rfl, rfl⟩, _, ⟨_, rfl, rfl, _, rfl, rfl, rfl⟩⟩
 · exact ⟨⟨_, rfl, rfl⟩, _, ⟨_, rfl, rfl, _, rfl, rfl, rfl⟩⟩
 · exact ⟨⟨_, rfl, rfl⟩, _, ⟨_, rfl, rfl, _, rfl, rfl, rfl⟩⟩
 · exact ⟨⟨_, rfl, by kernel_rfl, fun ks h => by cases h; exact ⟨by kernel_rfl, by kernel_rfl, by kernel_rfl⟩⟩, ⟨_, rfl, rfl, _, rfl, rfl, rfl⟩⟩
 · exact ⟨⟨_, rfl, by kernel_rfl, fun ks h => by cases h; exact ⟨by kernel_rfl, by kernel_rfl, by kernel_rfl⟩⟩, ⟨_, rfl, rfl, _, rfl, rfl, rfl⟩⟩
 · exact ⟨⟨_, rfl, rfl⟩, _, ⟨_, rfl, rfl, _, rfl, rfl, rfl⟩⟩
 · exact ⟨⟨_, rfl, rfl⟩, _, ⟨_, rfl, rfl, _, rfl, rfl, rfl⟩⟩
 · trivial, (fun t r h => by
 have h : ars t = some r := h
 unfold ars at h
 split at h
 · cases h), (fun f h => by cases h),
 (fun t n f h => by
 have h : mts t n = some f := h
 unfold mts at h
 split at h
 · cases h
 · cases h
 · cases h
 · cases h
 · cases h), (fun t h => by
 have h : nifs t = true := h
 unfold nifs at h
 split at h
 · exact ⟨_, rfl, rfl⟩
 · exact ⟨_, rfl, rfl⟩
 · exact ⟨_, rfl, rfl⟩
 · exact ⟨_, rfl, rfl⟩
 · cases h), (fun e => rfl), (fun t ks h => by cases h), (fun f => rfl), (fun t h => by cases h), (fun t h => ernsOk t h)⟩
theorem envOk : EnvOk Tryz.prog E := envOkW []
theorem zlW (w : List Nat) : Zl (Ew w) := ⟨fun t e sz b z h => by
 have h : tys t = .slice e sz b z := h
 unfold tys at h
 split at h <;> cases h <;> rfl⟩
theorem zl : Zl E := zlW []
theorem mixed : Tryz.prog.follows .mixedOrders = true := by kernel_rfl
def noCon : FuncId → Con := fun _ _ _ _ => Bad 1000
theorem noCon_ok : ConOk Tryz.prog noCon := fun f A H K h => by cases h
def noDet : FuncId → Option Dt := fun _ => none
theorem noDet_ok : DetOk Tryz.prog noDet := fun f d h => by cases h
set_option maxRecDepth 100000
theorem opn_Want : Opn Tryz.prog 28 Want := by
 intro H enc w fuel cs x h
 obtain ⟨xs, n, _, rfl, hl, hxl, hf⟩ := DataW.trod_struct Tryz.underlying28 h
 rw [show Tryz.prog.cellsOf 28 = 4 by kernel_rfl] at hl
 obtain ⟨c0, c1, c2, c3, rfl⟩ : ∃ c0 c1 c2 c3, cs = [c0, c1, c2, c3] := by
   match cs, hl with | [c0, c1, c2, c3], _ => exact ⟨c0, c1, c2, c3, rfl⟩
 obtain ⟨x0, x1, x2, x3, rfl⟩ : ∃ x0 x1 x2 x3, xs = [x0, x1, x2, x3] := by
   match xs, hxl with | [x0, x1, x2, x3], _ => exact ⟨x0, x1, x2, x3, rfl⟩
 have h0 : DataW.trod enc Tryz.prog w 0 (fun _ => true) true n 3 (([c0, c1, c2, c3].drop 0).take (Tryz.prog.cellsOf 3)) = some x0 := hf 0 _ rfl
 rw [show Tryz.prog.cellsOf 3 = 1 by kernel_rfl] at h0
 have h0 : DataW.trod enc Tryz.prog w 0 (fun _ => true) true n 3 [c0] = some x0 := h0
 obtain ⟨y0, u0, b0, e0⟩ := (opn_int Tryz.underlying3) h0
 have h1 : DataW.trod enc Tryz.prog w 0 (fun _ => true) true n 3 (([c0, c1, c2, c3].drop 1).take (Tryz.prog.cellsOf 3)) = some x1 := hf 1 _ rfl
 rw [show Tryz.prog.cellsOf 3 = 1 by kernel_rfl] at h1
 have h1 : DataW.trod enc Tryz.prog w 0 (fun _ => true) true n 3 [c1] = some x1 := h1
 obtain ⟨y1, u1, b1, e1⟩ := (opn_int Tryz.underlying3) h1
 have h2 : DataW.trod enc Tryz.prog w 0 (fun _ => true) true n 3 (([c0, c1, c2, c3].drop 2).take (Tryz.prog.cellsOf 3)) = some x2 := hf 2 _ rfl
 rw [show Tryz.prog.cellsOf 3 = 1 by kernel_rfl] at h2
 have h2 : DataW.trod enc Tryz.prog w 0 (fun _ => true) true n 3 [c2] = some x2 := h2
 obtain ⟨y2, u2, b2, e2⟩ := (opn_int Tryz.underlying3) h2
 have h3 : DataW.trod enc Tryz.prog w 0 (fun _ => true) true n 3 (([c0, c1, c2, c3].drop 3).take (Tryz.prog.cellsOf 3)) = some x3 := hf 3 _ rfl
 rw [show Tryz.prog.cellsOf 3 = 1 by kernel_rfl] at h3
 have h3 : DataW.trod enc Tryz.prog w 0 (fun _ => true) true n 3 [c3] = some x3 := h3
 obtain ⟨y3, u3, b3, e3⟩ := (opn_int Tryz.underlying3) h3
 exact ⟨⟨y0, y1, y2, y3⟩, ⟨u0, u1, u2, u3⟩, by simp only [Siz.bulk, bulkD, bulkL, List.map] at *; omega, openCs_app e0 (openCs_app e1 (openCs_app e2 (openCs_app e3 (openCs_nil))))⟩
theorem opn_Task : Opn Tryz.prog 31 Task := by
 intro H enc w fuel cs x h
 obtain ⟨xs, n, _, rfl, hl, hxl, hf⟩ := DataW.trod_struct Tryz.underlying31 h
 rw [show Tryz.prog.cellsOf 31 = 3 by kernel_rfl] at hl
 obtain ⟨c0, c1, c2, rfl⟩ : ∃ c0 c1 c2, cs = [c0, c1, c2] := by
   match cs, hl with | [c0, c1, c2], _ => exact ⟨c0, c1, c2, rfl⟩
 obtain ⟨x0, x1, x2, rfl⟩ : ∃ x0 x1 x2, xs = [x0, x1, x2] := by
   match xs, hxl with | [x0, x1, x2], _ => exact ⟨x0, x1, x2, rfl⟩
 have h0 : DataW.trod enc Tryz.prog w 0 (fun _ => true) true n 3 (([c0, c1, c2].drop 0).take (Tryz.prog.cellsOf 3)) = some x0 := hf 0 _ rfl
 rw [show Tryz.prog.cellsOf 3 = 1 by kernel_rfl] at h0
 have h0 : DataW.trod enc Tryz.prog w 0 (fun _ => true) true n 3 [c0] = some x0 := h0
 obtain ⟨y0, u0, b0, e0⟩ := (opn_int Tryz.underlying3) h0
 have h1 : DataW.trod enc Tryz.prog w 0 (fun _ => true) true n 3 (([c0, c1, c2].drop 1).take (Tryz.prog.cellsOf 3)) = some x1 := hf 1 _ rfl
 rw [show Tryz.prog.cellsOf 3 = 1 by kernel_rfl] at h1
 have h1 : DataW.trod enc Tryz.prog w 0 (fun _ => true) true n 3 [c1] = some x1 := h1
 obtain ⟨y1, u1, b1, e1⟩ := (opn_int Tryz.underlying3) h1
 have h2 : DataW.trod enc Tryz.prog w 0 (fun _ => true) true n 3 (([c0, c1, c2].drop 2).take (Tryz.prog.cellsOf 3)) = some x2 := hf 2 _ rfl
 rw [show Tryz.prog.cellsOf 3 = 1 by kernel_rfl] at h2
 have h2 : DataW.trod enc Tryz.prog w 0 (fun _ => true) true n 3 [c2] = some x2 := h2
 obtain ⟨y2, u2, b2, e2⟩ := (opn_int Tryz.underlying3) h2
 exact ⟨⟨y0, y1, y2⟩, ⟨u0, u1, u2⟩, by simp only [Siz.bulk, bulkD, bulkL, List.map] at *; omega, openCs_app e0 (openCs_app e1 (openCs_app e2 (openCs_nil)))⟩
theorem opn_PlanJob : Opn Tryz.prog 33 PlanJob := by
 intro H enc w fuel cs x h
 obtain ⟨xs, n, _, rfl, hl, hxl, hf⟩ := DataW.trod_struct Tryz.underlying33 h
 rw [show Tryz.prog.cellsOf 33 = 4 by kernel_rfl] at hl
 obtain ⟨c0, c1, c2, c3, rfl⟩ : ∃ c0 c1 c2 c3, cs = [c0, c1, c2, c3] := by
   match cs, hl with | [c0, c1, c2, c3], _ => exact ⟨c0, c1, c2, c3, rfl⟩
 obtain ⟨x0, x1, rfl⟩ : ∃ x0 x1, xs = [x0, x1] := by
   match xs, hxl with | [x0, x1], _ => exact ⟨x0, x1, rfl⟩
 have h0 : DataW.trod enc Tryz.prog w 0 (fun _ => true) true n 3 (([c0, c1, c2, c3].drop 0).take (Tryz.prog.cellsOf 3)) = some x0 := hf 0 _ rfl
 rw [show Tryz.prog.cellsOf 3 = 1 by kernel_rfl] at h0
 have h0 : DataW.trod enc Tryz.prog w 0 (fun _ => true) true n 3 [c0] = some x0 := h0
 obtain ⟨y0, u0, b0, e0⟩ := (opn_int Tryz.underlying3) h0
 have h1 : DataW.trod enc Tryz.prog w 0 (fun _ => true) true n 31 (([c0, c1, c2, c3].drop 1).take (Tryz.prog.cellsOf 31)) = some x1 := hf 1 _ rfl
 rw [show Tryz.prog.cellsOf 31 = 3 by kernel_rfl] at h1
 have h1 : DataW.trod enc Tryz.prog w 0 (fun _ => true) true n 31 [c1, c2, c3] = some x1 := h1
 obtain ⟨y1, u1, b1, e1⟩ := opn_Task h1
 exact ⟨⟨y0, y1⟩, ⟨u0, u1⟩, by simp only [Siz.bulk, bulkD, bulkL, List.map] at *; omega, openCs_app e0 (openCs_app e1 (openCs_nil))⟩
theorem opn_Plan : Opn Tryz.prog 25 Plan := by
 intro H enc w fuel cs x h
 obtain ⟨xs, n, _, rfl, hl, hxl, hf⟩ := DataW.trod_struct Tryz.underlying25 h
 rw [show Tryz.prog.cellsOf 25 = 3 by kernel_rfl] at hl
 obtain ⟨c0, c1, c2, rfl⟩ : ∃ c0 c1 c2, cs = [c0, c1, c2] := by
   match cs, hl with | [c0, c1, c2], _ => exact ⟨c0, c1, c2, rfl⟩
 obtain ⟨x0, x1, x2, rfl⟩ : ∃ x0 x1 x2, xs = [x0, x1, x2] := by
   match xs, hxl with | [x0, x1, x2], _ => exact ⟨x0, x1, x2, rfl⟩
 have h0 : DataW.trod enc Tryz.prog w 0 (fun _ => true) true n 3 (([c0, c1, c2].drop 0).take (Tryz.prog.cellsOf 3)) = some x0 := hf 0 _ rfl
 rw [show Tryz.prog.cellsOf 3 = 1 by kernel_rfl] at h0
 have h0 : DataW.trod enc Tryz.prog w 0 (fun _ => true) true n 3 [c0] = some x0 := h0
 obtain ⟨y0, u0, b0, e0⟩ := (opn_int Tryz.underlying3) h0
 have h1 : DataW.trod enc Tryz.prog w 0 (fun _ => true) true n 22 (([c0, c1, c2].drop 1).take (Tryz.prog.cellsOf 22)) = some x1 := hf 1 _ rfl
 rw [show Tryz.prog.cellsOf 22 = 1 by kernel_rfl] at h1
 have h1 : DataW.trod enc Tryz.prog w 0 (fun _ => true) true n 22 [c1] = some x1 := h1
 obtain ⟨y1, u1, b1, e1⟩ := (opn_slice Tryz.underlying22 (by kernel_rfl) (by decide) opn_Want) h1
 have h2 : DataW.trod enc Tryz.prog w 0 (fun _ => true) true n 23 (([c0, c1, c2].drop 2).take (Tryz.prog.cellsOf 23)) = some x2 := hf 2 _ rfl
 rw [show Tryz.prog.cellsOf 23 = 1 by kernel_rfl] at h2
 have h2 : DataW.trod enc Tryz.prog w 0 (fun _ => true) true n 23 [c2] = some x2 := h2
 obtain ⟨y2, u2, b2, e2⟩ := (opn_slice Tryz.underlying23 (by kernel_rfl) (by decide) opn_PlanJob) h2
 exact ⟨⟨y0, y1, y2⟩, ⟨u0, u1, u2⟩, by simp only [Siz.bulk, bulkD, bulkL, List.map] at *; omega, openCs_app e0 (openCs_app e1 (openCs_app e2 (openCs_nil)))⟩
theorem fin_b {b : Th Bool} {H : Hp} {kl : List Nat} (h : b () = true) : outA (.bc true) [] (.b b) H kl := by
 cbv
 repeat' first | (refine Stp.mk ?_; cbv) | (refine Gen.mk fun r hr => ?_; (try simp only [Dat.ok, Dat.dec, Leaf.ok, Leaf.val, Z0, Z1, Z2, Z3, Z4, Z5, Z6, Z7, val_sl, val_nil] at hr); cbv) | exact trivial | rfl | refine Both.mk ?_ ?_ | (refine Imp.mk fun h => ?_; (try dsimp only at h); (try simp only [nc, Int.toNat_natCast, ne_eq, zz] at h); (try simp only [nc] at h)) | refine Ob.mk ?_ ?_ | refine Chk.mk (by kernel_rfl) ?_ | refine Eq'.mk ?_ | (refine AllN.mk fun i hi => ?_; cbv) | (refine AllC.mk fun c hc hcm => ?_; (try dsimp only at hc); cbv) | (refine AllS.mk fun r hr => ?_; (try simp only [Dat.ok, Dat.dec, Leaf.ok, Leaf.val, Z0, Z1, Z2, Z3, Z4, Z5, Z6, Z7, val_sl] at hr); cbv)
 exact h
theorem fin_t {H : Hp} {kl : List Nat} : outA (.bc true) [] (.bc true) H kl := by
 cbv
 repeat' first | (refine Stp.mk ?_; cbv) | (refine Gen.mk fun r hr => ?_; (try simp only [Dat.ok, Dat.dec, Leaf.ok, Leaf.val, Z0, Z1, Z2, Z3, Z4, Z5, Z6, Z7, val_sl, val_nil] at hr); cbv) | exact trivial | rfl | refine Both.mk ?_ ?_ | (refine Imp.mk fun h => ?_; (try dsimp only at h); (try simp only [nc, Int.toNat_natCast, ne_eq, zz] at h); (try simp only [nc] at h)) | refine Ob.mk ?_ ?_ | refine Chk.mk (by kernel_rfl) ?_ | refine Eq'.mk ?_ | (refine AllN.mk fun i hi => ?_; cbv) | (refine AllC.mk fun c hc hcm => ?_; (try dsimp only at hc); cbv) | (refine AllS.mk fun r hr => ?_; (try simp only [Dat.ok, Dat.dec, Leaf.ok, Leaf.val, Z0, Z1, Z2, Z3, Z4, Z5, Z6, Z7, val_sl] at hr); cbv)

end Go.Proofs.YtnjngpjkhddnfaaGreatDoor
