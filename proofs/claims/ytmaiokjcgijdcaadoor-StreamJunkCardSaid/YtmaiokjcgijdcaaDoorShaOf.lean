/- sha: Of, Sum. -/
import Derived.Test.YtmaiokjcgijdcaaDoorShaSum2
import Derived.Test.YtmaiokjcgijdcaaDoorSl
namespace Go.Proofs.YtmaiokjcgijdcaaDoor
open Go.RowKit HP

set_option maxRecDepth 100000 in
set_option maxHeartbeats 2000000 in
theorem of_ok (A : Option Addr) (n c : Nat) (l : List BS) (w : World) (R : List HP) (hh : Holds w R) (hp : Ent R fun w => PRd w A l) (hn : Hid (n = l.length)) (hnb : n ≤ 140737488355328) (hk : Ent R KF) (hbd : (bsAll l).length ≤ 1152921504606846976) :
    Calls Tryd.prog 42 #[.slice A n c] w fun e w' => e = .returned (.agg (bcs (shaL (bsAll l))).toArray) ∧ Holds w' R := by
  have hz := run_alloc_hash
  have hzv : ∀ w, (zeroValue 89).run Tryd.prog w = .ok (.agg (hcells HS.zero)) w := fun _ => by kernel_rfl
  have h0 := (hh.alloc 77 (bcs (zeros 32)).toArray).alloc 89 (hcells HS.zero)
  rw [heap_size_alloc] at h0
  have HH0 := Lib.hid (h0.hash_new rfl)
  have HBD := Lib.hid hbd
  generalize hcells HS.zero = Z at hzv HH0
  clear h0 hh hbd
  go_enter Tryd.func42, Tryd.ntmps42
  go_wp2
  go_loopw [8] (fun i wr => ∃ j : Nat, j ≤ n ∧ i = .int .i64 j ∧ Holds wr (HashH (w.heap.size + 1) (bsAll (l.take j)) :: blk w.heap.size 77 (bcs (zeros 32)).toArray :: R)) (fun i _ => n - (intOf i).toNat)
  case atStart => exact ⟨0, by omega, rfl, HH0.out⟩
  case round =>
    obtain ⟨j, hj, rfl, hb⟩ := hrel
    by_cases hlt : j < n
    · have hjl : j < l.length := by rw [← hn.out]; exact hlt
      obtain ⟨g, o, rfl, cj, hok⟩ := (hp _ hb.tail.tail).at_ hjl
      have hrd : Ent (blk w.heap.size 77 (bcs (zeros 32)).toArray :: R) fun w => RD w l[j].A l[j].xs := fun w' hw' => ((hp _ hw'.tail).2 _ (List.getElem_mem hjl)).rd
      have hlen : (bsAll (l.take j)).length + l[j].n ≤ 1152921504606846976 := by
        have h1 := bsAll_take_le l (j + 1)
        rw [bsAll_snoc hjl, List.length_append, ← hok.n.out] at h1
        have := HBD.out; omega
      have hwr := write_ok (w.heap.size + 1) (bsAll (l.take j)) l[j].xs l[j].A l[j].n l[j].c wr _ hb hrd hok.n hok.c (hk.cons _) (by omega)
      rw [← bsAll_snoc hjl] at hwr
      have HW := Lib.hid hwr
      generalize l[j].A = Aj at cj HW
      generalize l[j].n = nj at cj HW
      generalize l[j].c = ccj at cj HW
      clear hwr hlen hrd hok hjl hb
      go_wp2_with (go_at_call 48; (with_reducible refine HW.out.mono ?_); rintro e w2 ⟨rfl, hh2⟩)
      go_roundw
      case rel => exact ⟨j + 1, by omega, by go_num, hh2⟩
      case measure => simp [intOf]; omega
    · have hlj : l.take j = l := List.take_of_length_le (by rw [← hn.out]; omega)
      rw [hlj] at hb
      have hs := hsum_ok (w.heap.size + 1) (bsAll l) wr _ hb (hk.cons _) HBD.out
      have h32 : (shaL (bsAll l)).length = 32 := by simp [shaL]
      generalize hL : shaL (bsAll l) = Lo at hs h32
      have HL := Lib.hid hL
      have HSM := Lib.hid hs; have H32 := Lib.hid h32
      clear hs h32 hb hlj hL
      have HSZ := Lib.hid (show (Tryd.prog.info? 77).map (·.size) = some (bcs Lo).toArray.size by rw [Tryd.sizeHash]; simp [H32.out])
      have HPA := Lib.hid (show putA (bcs (zeros 32)).toArray 0 (bcs Lo).toArray.toList = (bcs Lo).toArray from putA_all _ _ (by simp [H32.out]))
      have HZL := Lib.hid (show 0 + (bcs Lo).toArray.size ≤ (bcs (zeros 32)).toArray.size by simp [H32.out]); have H1B := Lib.hid (show ∀ v ∈ (bcs Lo).toArray.toList, v.oneCell' = true from bcs_one)
      go_wp2_with (first
        | (go_at_call 49; (with_reducible refine HSM.out.mono ?_); rintro e w2 ⟨rfl, hh2⟩; have HH2 := Lib.hid (hh2.pull 1 rfl); have HBL := Lib.hid (hh2.pull 1 rfl).blk; clear hh2)
        | (with_reducible refine wpList_store_blk rfl 77 (.tmp 2) (.tmp 15) rfl w.heap.size 0 (bcs Lo).toArray rfl rfl 77 (bcs (zeros 32)).toArray HBL.out HSZ.out HZL.out H1B.out ?_
           (
           intro w4 hb4 hk4
           rw [HPA.out] at hb4
           have hh5 := HH2.out.reblk hb4 hk4
           have hcc : w4.heap[w.heap.size]? = some (.cells (bcs Lo).toArray 77 (0, 0)) := hb4
           have HH5 := Lib.hid hh5; have HCC := Lib.hid hcc
           clear hb4 hk4 hh5 hcc)))
      refine bodyPost_ret (results_cell_row rfl _ _ w.heap.size 77 (bcs Lo).toArray (0, 0) _ rfl HCC.out Tryd.underlying77 rfl HSZ.out) rfl ?_
      exact ⟨by rw [HL.out], HH5.out.tail.tail⟩

theorem Ent.parts1 {R : List HP} {g : Nat} {t : TypeId} {A : Option Addr} {n c : Nat} {xs : List UInt8} (hr : Ent R fun w => RD w A xs) (hn : Hid (n = xs.length)) (hc : n ≤ c) : Ent (HP.blk g t #[.slice A n c] :: R) fun w => PRd w (some ⟨g, 0, none⟩) [⟨A, n, c, xs⟩] := fun w hw =>
  ⟨PAt.of_blk hw.blk rfl, fun s hs => by rw [List.mem_singleton] at hs; subst hs; exact ⟨hn, hc, hr w hw.tail⟩⟩
































end Go.Proofs.YtmaiokjcgijdcaaDoor
