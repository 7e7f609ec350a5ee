/- Plans as texts, plain: what is told is read as it was. -/
import Derived.Test.YtnjngpjkhddnfaaGreatDoorConf3
set_option linter.all false
namespace Go.Proofs.YtnjngpjkhddnfaaGreatDoor
open Go Go.Abs

theorem bzl_list (l : List UInt8) : (bzl l).data.toList = l := by simp [bzl]
theorem bzl_data (s : ByteArray) : bzl s.data.toList = s := by simp [bzl]
theorem flat_data {α : Type} (f : α → ByteArray) (g : α → List UInt8) (h : ∀ x, (f x).data.toList = g x ++ [10]) : ∀ l : List α, (flatB f l).data.toList = l.flatMap fun x => g x ++ [10]
  | [] => rfl
  | x :: r => by
    rw [flatB, ByteArray.data_append, Array.toList_append, flat_data f g h r, h, List.flatMap_cons]
theorem split_lines : ∀ {L : List (List UInt8)}, (∀ x ∈ L, (10 : UInt8) ∉ x) → splitC 10 (L.flatMap fun x => x ++ [10]) = L ++ [[]]
  | [], _ => rfl
  | x :: r, h => by
    rw [List.flatMap_cons, List.append_assoc]
    show splitC 10 (x ++ 10 :: List.flatMap (fun x => x ++ [10]) r) = _
    rw [splitC_app (h x (List.mem_cons_self ..)), split_lines fun j hj => h j (List.mem_cons_of_mem _ hj)]; rfl
theorem lines_drop {s : ByteArray} {L : List ByteArray} (h : splitV s nl1 = L ++ [.empty]) : linesR s = L := by
  unfold linesR
  have e : (L ++ [ByteArray.empty]).length - 1 = L.length := by rw [List.length_append]; rfl
  rw [h, e, if_pos, List.take_left]
  rw [List.getD_eq_getElem?_getD, List.getElem?_append_right (Nat.le_refl _), Nat.sub_self]; rfl

end Go.Proofs.YtnjngpjkhddnfaaGreatDoor
