/- More pieces of memory: a block with a frozen range. -/
import Derived.Test.YtmaiokjcgijdcaaDoorSl
namespace Go.Proofs.YtmaiokjcgijdcaaDoor
open Go.RowKit HP
/-- block g, known whole, with its frozen range -/
def HP.blkF (g : Nat) (t : TypeId) (cs : Array Value) (fr : Nat × Nat) : HP := ⟨fun S w => w.heap[g]? = some (.cells cs t fr) ∧ ∀ k, S k ↔ k = g, fun h k hk => by rw [(h.2 k).1 hk]; exact lt_of_heap h.1,
  fun h hw => ⟨(hw.block g ((h.2 g).2 rfl)).trans h.1, h.2⟩⟩
theorem Holds.allocF {w : World} {R : List HP} (h : Holds w R) (t : TypeId) (cs : Array Value) (fr : Nat × Nat) : Holds (w.alloc (.cells cs t fr)) (HP.blkF w.heap.size t cs fr :: R) :=
  h.new_ ⟨fun k => k = w.heap.size, ⟨heap_alloc_new w _, fun _ => Iff.rfl⟩, (Kept.refl _ _).alloc _, fun k hk => by omega⟩
theorem Holds.cellsF {w : World} {R : List HP} {g : Nat} {t : TypeId} {cs : Array Value} {fr : Nat × Nat} (h : Holds w (HP.blkF g t cs fr :: R)) : ∀ i, w.cell? ⟨g, i, none⟩ = cs[i]? := fun i => by
  obtain ⟨S, hS⟩ := h.head
  exact cell_of_row w g i cs t fr hS.1
theorem conv_rd {w : World} {A : Option Addr} {n c : Nat} {xs : List UInt8} (hn : n = xs.length) (h : RD w A xs) : (convert 22 9 (.slice A n c)).run Tryd.prog w = .ok (.string (strOf xs)) w := by
  obtain ⟨g, h⟩ := h
  exact run_conv_str w 22 9 Tryd.underlying22 Tryd.underlying5 Tryd.underlying9 g A xs n c hn h
theorem strOf_append (a b : List UInt8) : strOf (a ++ b) = strOf a ++ strOf b := by
  apply ByteArray.ext
  simp [strOf]
end Go.Proofs.YtmaiokjcgijdcaaDoor
