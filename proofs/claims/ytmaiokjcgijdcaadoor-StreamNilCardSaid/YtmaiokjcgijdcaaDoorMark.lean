/- []byte("..") of a constant: its block gets a mark. -/
import Derived.Test.YtmaiokjcgijdcaaDoorSl2
import Derived.Lib.SlBytesConst
namespace Go.Proofs.YtmaiokjcgijdcaaDoor
open Go.RowKit HP

theorem freeze_heap {w : World} {g : Nat} {C : Array Value} {e : TypeId} (hg : w.heap[g]? = some (.cells C e (0, 0))) (k : Nat) : (w.freeze ⟨g, k, none⟩ 1).heap[g]? = some (.cells C e (k, k + 1)) := by
  unfold World.freeze
  rw [if_neg (by decide)]
  simp [Array.getElem?_modify, hg]
theorem Kept.freeze (w : World) (g k : Nat) : Kept w (w.freeze ⟨g, k, none⟩ 1) (· = g) := by
  unfold World.freeze
  rw [if_neg (by decide)]
  refine ⟨rfl, rfl, rfl, by simp, fun j hj hn => ?_⟩
  simp [Array.getElem?_modify, show ¬ g = j from fun e => hn e.symm]
theorem run_convert_mark {P : Program} (w : World) (t e : TypeId) (g : Nat) (C : Array Value) (n c : Nat) (ht : P.underlying t = some (.slice e)) (he : P.underlying e = some (.int .u8)) (hg : w.heap[g]? = some (.cells C e (0, 0))) :
    (convert t t (.slice (some ⟨g, 0, none⟩) n c)).run P w = .ok (.slice (some ⟨g, 0, none⟩) n c) (w.freeze ⟨g, C.size, none⟩ 1) := by
  have hsh : w.shape? g = some (e, C.size) := by
    unfold World.shape?
    rw [hg]
  simp [convert, run_underlying ht, run_underlying he, markStringish, hsh]
/-- a constant's bytes, marked -/
theorem Holds.mark {w : World} {R : List HP} {g : Nat} {t : TypeId} {C : Array Value} {xs : List UInt8} (h : Holds w (HP.blk g t C :: R)) (hx : C.toList = bcs xs) : Holds (w.freeze ⟨g, C.size, none⟩ 1) (HP.rb (some ⟨g, 0, none⟩) xs :: R) := h.change fun S hS => by
  have hg := freeze_heap (w := w) (g := g) (C := C) (e := t) hS.1 C.size
  refine ⟨fun k => k = g ∧ xs ≠ [], ⟨g, fun _ => ⟨0, rfl, fun j hj => ?_⟩, fun _ => Iff.rfl⟩, (Kept.freeze w g C.size).mono (fun k _ e => (hS.2 k).2 e), fun k hk => .inl ((hS.2 k).2 hk.1)⟩
  rw [cell_of_row _ g _ C t _ hg, Nat.zero_add, ← Array.getElem?_toList, hx, bcs_get]
  simp [List.getD, hj]
theorem Holds.blk_heap {w : World} {R : List HP} {g : Nat} {t : TypeId} {C : Array Value} (h : Holds w (HP.blk g t C :: R)) : w.heap[g]? = some (.cells C t (0, 0)) := by
  obtain ⟨S, hS⟩ := h.head
  exact hS.1
end Go.Proofs.YtmaiokjcgijdcaaDoor
