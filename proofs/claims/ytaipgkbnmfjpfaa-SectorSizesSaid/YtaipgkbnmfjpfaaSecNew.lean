/- A new disk, its sectors, and a first write: what sector.New, Sectors, has, change, Write and Unsynced do there. -/
import Derived.Test.YtaipgkbnmfjpfaaBase
namespace Go.Proofs.Ytaipgkbnmfjpfaa
open Go.RowKit

theorem heap_alloc_size (w : World) (o : Obj) : (w.alloc o).heap.size = w.heap.size + 1 := by simp
theorem run_arrayAt {P : Program} {w : World} (t : TypeId) (n : Nat) (e : TypeId) (ht : P.underlying t = some (.array n e)) (a : Option Addr) (l c : Nat) (h : n ≤ l) :
    (Instr.arrayAt t (.slice a l c)).run P w = .ok (.pointer a) w := by
  have : ¬ l < n := by omega
  simp [Instr.arrayAt, run_underlying ht, this]
/-- n zero bytes -/
def Zs (n : Nat) : Array Value := Array.replicate n (.int .u8 0)
theorem size_Zs (n : Nat) : (Zs n).size = n := by simp [Zs]
theorem Try.infoSector : (Try.prog.info? 68).map (fun i => (i.zero, i.size, i.bytes)) = some (some (.agg (Zs 64)), 64, 64) := by kernel_rfl
theorem Try.infoByte : (Try.prog.info? 5).map (fun i => (i.zero, i.size, i.bytes)) = some (some (.int .u8 0), 1, 1) := by kernel_rfl
theorem zs_made (n : Nat) (h : 0 < n) (m : Nat) : madeCells (Zs n) m = Zs m := by
  unfold madeCells Zs
  ext i hi hj
  · simp
  · simp at hi
    have : i % n < n := Nat.mod_lt _ h
    simp [this]
theorem zs_made1 (m : Nat) : madeCells #[.int .u8 0] m = Zs m := zs_made 1 (by omega) m

/-- The world behind New. -/
def newDisk (w : World) (N : Nat) : World := ((w.alloc (.cells (Zs (N * 64)) 68)).alloc (.map #[] 0)).alloc (.cells #[.slice (some ⟨w.heap.size, 0, none⟩) N N, .map (some (w.heap.size + 1)), .int .i64 (-1), .bool false] 58)

theorem mk_sectors (w : World) (N : Nat) (h : N ≤ 4000) : (Instr.makeSlice 55 (.int .i64 N) (.int .i64 N)).run Try.prog w = .ok (.slice (some ⟨w.heap.size, 0, none⟩) N N) (w.alloc (.cells (Zs (N * 64)) 68)) := by
  obtain ⟨i, hi, hz, hs, hb⟩ := info_parts Try.infoSector
  have := run_make (P := Try.prog) w 55 68 i (.agg (Zs 64)) Try.underlying55 hi hz .i64 .i64 N N (by omega) (by omega) (by rw [hb]; omega) (by omega)
  rw [this, hs]; simp only [Value.cells, Int.toNat_natCast, zs_made 64 (by omega)]
theorem mk_bytes64 (w : World) : (Instr.makeSlice 27 (.int .i64 64) (.int .i64 64)).run Try.prog w = .ok (.slice (some ⟨w.heap.size, 0, none⟩) 64 64) (w.alloc (.cells (Zs 64) 5)) := by
  obtain ⟨i, hi, hz, hs, hb⟩ := info_parts Try.infoByte
  have := run_make (P := Try.prog) w 27 5 i (.int .u8 0) Try.underlying27 hi hz .i64 .i64 64 64 (by omega) (by omega) (by rw [hb]; omega) (by omega)
  rw [this, hs]; simp only [Value.cells, zs_made1]; rfl

theorem new_at (n : Int) (N : Nat) (hN : N ≤ 4000) (w : World) (h : (n < 0 ∧ Hid ((0:Int) = N)) ∨ (0 ≤ n ∧ n ≤ 4000 ∧ Hid (n = N)) ∨ (4000 < n ∧ Hid ((4000 : Int) = N))) :
    Calls Try.prog 10 #[.int .i64 n] w fun e w' => e = .returned (.pointer (some ⟨w.heap.size + 2, 0, none⟩)) ∧ w' = newDisk w N := by
  have hmm := @run_makeMap Try.prog
  rcases h with ⟨h1, H⟩ | ⟨h1, h2, H⟩ | ⟨h1, H⟩
  all_goals
    go_enter Try.func10, Try.ntmps10
    go_wp2_with fail
    rw [H.out, mk_sectors w N hN]
    clear H
    go_wp2
    go_ret
    exact ⟨rfl, rfl⟩
theorem newDisk_map (w : World) (N : Nat) : MapB (newDisk w N) (w.heap.size + 1) #[] 0 := by
  unfold newDisk
  refine MapB.alloc ?_ _
  have := heap_alloc_new (w.alloc (.cells (Zs (N * 64)) 68)) (.map #[] 0)
  simpa [MapB] using this
theorem newDisk_blk (w : World) (N : Nat) : Blk (newDisk w N) (w.heap.size + 2) 58 #[.slice (some ⟨w.heap.size, 0, none⟩) N N, .map (some (w.heap.size + 1)), .int .i64 (-1), .bool false] := by
  have := Blk.new ((w.alloc (.cells (Zs (N * 64)) 68)).alloc (.map #[] 0)) 58 #[.slice (some ⟨w.heap.size, 0, none⟩) N N, .map (some (w.heap.size + 1)), .int .i64 (-1), .bool false]
  simp only [heap_alloc_size, Nat.add_assoc, Nat.reduceAdd] at this
  exact this
theorem newDisk_kept (w : World) (N : Nat) : Kept w (newDisk w N) [] := (((Kept.refl _ _).alloc _).alloc _).alloc _
theorem newDisk_size (w : World) (N : Nat) : (newDisk w N).heap.size = w.heap.size + 3 := by simp [newDisk]

theorem sectors_at (b : Nat) (a : Option Addr) (l c : Nat) (w : World) (hc : w.cell? ⟨b, 0, none⟩ = some (.slice a l c)) : Calls Try.prog 11 #[.pointer (some ⟨b, 0, none⟩)] w fun e w' => e = .returned (.int .i64 l) ∧ w = w' := by
  go_enter Try.func11, Try.ntmps11
  go_wp2
  go_ret
  exact ⟨rfl, rfl⟩

theorem has_yes (b : Nat) (a : Option Addr) (l c : Nat) (i : Int) (w : World) (h0 : 0 ≤ i) (h1 : i < l) (hc : w.cell? ⟨b, 0, none⟩ = some (.slice a l c)) : Calls Try.prog 39 #[.pointer (some ⟨b, 0, none⟩), .int .i64 i] w fun e w' => e = .returned (.bool true) ∧ w = w' := by
  go_enter Try.func39, Try.ntmps39
  go_wp2_with (go_at_call 11; refine (sectors_at b a l c _ hc).mono ?_; rintro e w' ⟨rfl, rfl⟩)
  go_ret
  exact ⟨rfl, rfl⟩

theorem change_ok (b : Nat) (w : World) (h2 : w.cell? ⟨b, 2, none⟩ = some (.int .i64 (-1))) (h3 : w.cell? ⟨b, 3, none⟩ = some (.bool false)) (f2 : w.frozen? ⟨b, 2, none⟩ = false) (f3 : w.frozen? ⟨b, 3, none⟩ = false) :
   Calls Try.prog 40 #[.pointer (some ⟨b, 0, none⟩)] w fun e w' => e = .returned (.int .i64 0) ∧ w' = (w.setCell ⟨b, 3, none⟩ (.bool false)).setCell ⟨b, 2, none⟩ (.int .i64 (-1)) := by
  go_enter Try.func40, Try.ntmps40
  go_wp2
  go_ret
  exact ⟨rfl, rfl⟩
theorem change_ok' (b : Nat) (w : World) (v0 v1 : Value) (h : Blk w b 58 #[v0, v1, .int .i64 (-1), .bool false]) :
   Calls Try.prog 40 #[.pointer (some ⟨b, 0, none⟩)] w fun e w' => e = .returned (.int .i64 0) ∧ Blk w' b 58 #[v0, v1, .int .i64 (-1), .bool false] ∧ Kept w w' [b] :=
  (change_ok b w (h.cell_ rfl) (h.cell_ rfl) (h.frozen 2) (h.frozen 3)).mono fun e w' ⟨he, hw⟩ => by
    subst hw
    exact ⟨he, (h.set_ 3 _).set_ 2 _, ((Kept.refl _ _).set_ (.inl (by simp)) _).set_ (.inl (by simp)) _⟩
theorem run_len_map (w : World) (m : Nat) (es : Array MapEntry) (cl : Nat) (t : TypeId) (h : w.heap[m]? = some (.map es cl)) : (Builtin.len_ #[56] t #[.map (some m)]).run Try.prog w = .ok (.int .i64 es.size) w := by
  simp [Builtin.len_, run_getObj_map w m es cl h, Result.andThen]
  rfl
theorem unsynced_at (b m : Nat) (w : World) (es : Array MapEntry) (cl : Nat) (hc : w.cell? ⟨b, 1, none⟩ = some (.map (some m))) (hm : MapB w m es cl) : Calls Try.prog 29 #[.pointer (some ⟨b, 0, none⟩)] w fun e w' => e = .returned (.int .i64 es.size) ∧ w = w' := by
  go_enter Try.func29, Try.ntmps29
  go_wp2
  rw [run_len_map w m es cl _ hm]
  go_wp2
  go_ret
  exact ⟨rfl, rfl⟩
theorem wpList_mapUpdate_run {P : Program} {ops : Array Oper} {rest : List Oper} {o : Oper} {a : Act} {w : World} {Q : Exit → Act → World → Prop} (hg : o.guard = none) (t : TypeId) (m x v : Operand) (hop : o.op = .mapUpdate t m x v)
    (vm vx vv : Value) (hm : a.eval m = vm) (hx : a.eval x = vx) (hv : a.eval v = vv) (w' : World) (hrun : (Instr.mapUpdate t vm vx vv).run P w = .ok () w') (h : wpList P ops Q rest (a.put o.dst undef) w') :
    wpList P ops Q (o :: rest) a w := by
  refine wpList_plain hg fun K hK => ?_
  unfold Oper.wp
  simp [execOp, hop, hm, hx, hv, hrun, Result.andThen]
  exact hK _ _ h
theorem run_mapUpdate_firstI {P : Program} {w : World} (mty kt et : TypeId) (r clock : Nat) (s : Int) (val : Value) (hm : P.underlying mty = some (.map kt et)) (hk : P.underlying kt = some (.int .i64)) (hb : w.heap[r]? = some (.map #[] clock)) :
    (Instr.mapUpdate mty (.map (some r)) (.int .i64 s) val).run P w = .ok () { w with heap := w.heap.setIfInBounds r (.map #[{ key := .int .i64 s, val := val, born := clock }] (clock + 1)) } := by
  have hf : Instr.findNow (.int .i64) (.int .i64 s) ([] : List MapEntry) 0 = some none := rfl
  have hc : (Instr.checkKey false 10000 kt (.int .i64 s)).run P w = .ok () w := MapKept.run_checkKey (k := .int .i64 s) hk (by simp [MapKept.IsKey]) false 9999
  simp [Instr.mapUpdate, run_underlying hm, MapKept.run_getObj_map hb, hc, MapKept.run_findKey hk hf, MapKept.run_setObj_map _ hb, Result.andThen]

set_option maxRecDepth 100000 in
/-- The world behind a write to sector 1 of a new disk. -/
theorem write_first (b m x N : Nat) (A0 : Option Addr) (cs : Array Value) (hcs : cs.size = 64) (w : World) (hN : 1 < N)
    (hb : Blk w b 58 #[.slice A0 N N, .map (some m), .int .i64 (-1), .bool false]) (hm : MapB w m #[] 0) (hx : Blk w x 5 cs) :
    Calls Try.prog 28 #[.pointer (some ⟨b, 0, none⟩), .int .i64 1, .slice (some ⟨x, 0, none⟩) 64 64] w fun e w' => e = .returned (.int .i64 0) ∧ (∃ en, MapB w' m #[en] 1) ∧ Kept w w' [b, m] ∧
      Blk w' b 58 #[.slice A0 N N, .map (some m), .int .i64 (-1), .bool false] := by
  have c0 := hb.cell_ (i := 0) rfl
  have hxb := hx.ne_ hb (by decide)
  have hmb := hm.ne_ hb
  go_enter Try.func28, Try.ntmps28
  go_wp2_with (first | (go_at_call 39; refine (has_yes b _ N _ 1 _ (by omega) (by omega) c0).mono ?_; rintro e w' ⟨rfl, rfl⟩) | (go_at_call 40; refine (change_ok' b _ _ _ hb).mono ?_; rintro e w1 ⟨rfl, hb1, hk1⟩))
  have c1 : w1.drew.cell? ⟨b, 1, none⟩ = _ := hb1.cell_ (i := 1) rfl
  refine wp_region_still_tail 8 (by kernel_rfl) (by kernel_rfl) ?_
  simp only [List.take_succ_cons, List.take_zero, List.drop_succ_cons, List.drop_zero]
  change wpStill _ _ w1.drew _ _ _
  have hap := fun w => run_arrayAt (P := Try.prog) (w := w) 68 64 _ Try.underlying68 (some ⟨x, 0, none⟩) 64 64 (by omega)
  repeat still_step
  refine wpStill_load_row rfl 68 _ rfl x rfl 5 cs _ _ (hx.kept hk1 (by simpa using hxb)).drew Try.underlying68 rfl (by rw [hcs]; kernel_rfl) ?_
  refine wpStill_nil ?_
  have hm1 : MapB w1.drew m #[] 0 := (hm.kept hk1 (by simpa using hmb)).drew
  refine wpList_mapUpdate_run rfl 56 _ _ _ rfl _ _ _ rfl rfl rfl _ (run_mapUpdate_firstI 56 3 68 m 0 1 _ Try.underlying56 Try.underlying3 hm1) ?_
  have HB := Lib.hid hb1; have HM := Lib.hid hm1; have HK := Lib.hid hk1
  clear hb hm hx hap c0 c1 hb1 hm1 hk1
  go_wp2
  go_ret
  have hmw := HM.out.lt
  refine ⟨rfl, ⟨_, by unfold MapB; simp only [Array.getElem?_setIfInBounds, if_true]; exact if_pos hmw⟩, ?_, ?_⟩
  · exact (HK.out.mono (by simp; intro k _ h; exact .inl h)).drew.setBlock (.inl (by simp)) _
  · have := HB.out
    unfold Blk at *
    have hmb' : ¬ m = b := hmb
    simp only [Array.getElem?_setIfInBounds, hmb', if_false]
    exact this

/-- The law's first look: a new disk of three sectors takes a write. -/
theorem secawake_ok (w : World) : Calls Try.prog 9 #[] w fun e w' => e = .returned (.bool true) ∧ Kept w w' [] := by
  have hmk := mk_bytes64
  go_enter Try.func9, Try.ntmps9
  go_wp2_with fail
  refine (new_at 3 3 (by omega) w (.inr (.inl ⟨by omega, by omega, rfl⟩))).mono ?_
  rintro e w1 ⟨rfl, hw1⟩
  have hk := newDisk_kept w 3
  have hM := newDisk_map w 3
  have hB := newDisk_blk w 3
  rw [← hw1] at hk hM hB
  clear hw1
  have c0 := hB.cell_ (i := 0) rfl
  have hM2 := MapB.alloc hM (.cells (Zs 64) 5)
  have hB2 := Blk.alloc hB (.cells (Zs 64) 5)
  have hX2 := Blk.new w1 5 (Zs 64)
  have hk2 := hk.alloc (.cells (Zs 64) 5)
  have hlt := hB.lt
  have HK := Lib.hid hk; clear hk
  go_wp2_with (first | (go_at_call 11; refine (sectors_at _ _ _ _ _ c0).mono ?_; rintro e w' ⟨rfl, rfl⟩) |
    (go_at_call 28; refine (write_first _ _ _ 3 _ _ (size_Zs 64) _ (by omega) hB2 hM2 hX2).mono ?_; rintro e w2 ⟨rfl, ⟨en, hM3⟩, hk3, hB3⟩; have c1 := hB3.cell_ (i := 1) rfl) |
    (go_at_call 29; refine (unsynced_at _ _ _ _ _ c1 hM3).mono ?_; rintro e w' ⟨rfl, rfl⟩))
  go_ret
  refine ⟨rfl, hk2.trans hk3 (by simp; omega)⟩

/-- As many sectors as may be. -/
theorem sizes_walk (n : Int) (w : World) : Calls Try.prog 3 #[.int .i64 n] w fun e w' => e = .returned (.bool true) ∧ Kept w w' [] := by
  obtain ⟨N, hN, h⟩ : ∃ N : Nat, N ≤ 4000 ∧ ((n < 0 ∧ Hid ((0:Int) = N)) ∨ (0 ≤ n ∧ n ≤ 4000 ∧ Hid (n = N)) ∨ (4000 < n ∧ Hid ((4000 : Int) = N))) := by
    unfold Hid
    by_cases h1 : n < 0
    · exact ⟨0, by omega, by omega⟩
    · by_cases h2 : n ≤ 4000
      · exact ⟨n.toNat, by omega, by omega⟩
      · exact ⟨4000, by omega, by omega⟩
  have hc := new_at n N hN
  have HC := Lib.hid (fun w => hc w h)
  clear hc
  rcases h with ⟨h1, H⟩ | ⟨h1, h2, H⟩ | ⟨h1, H⟩
  all_goals
    go_enter Try.func3, Try.ntmps3
    go_wp2_with fail
    refine (secawake_ok w).mono ?_
    rintro e w1 ⟨rfl, hk⟩
    have HK := Lib.hid hk; clear hk
    go_wp2_with fail
    refine (HC.out w1).mono ?_
    rintro e w2 ⟨rfl, hw2⟩
    have hk := newDisk_kept w1 N
    have hB := newDisk_blk w1 N
    rw [← hw2] at hk hB
    clear hw2
    have c0 := hB.cell_ (i := 0) rfl
    clear hB
    have HK2 := Lib.hid hk; clear hk
    go_wp2_with (go_at_call 11; refine (sectors_at _ _ _ _ _ c0).mono ?_; rintro e w' ⟨rfl, rfl⟩)
    go_ret
    have := H.out
    refine ⟨?_, HK.out.trans HK2.out (by simp)⟩
    simp [← this]
end Go.Proofs.Ytaipgkbnmfjpfaa
