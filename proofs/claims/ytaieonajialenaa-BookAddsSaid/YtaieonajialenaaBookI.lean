/- Rows of records that came in; few, awake; BookStays. -/
import Derived.Test.YtaieonajialenaaBookH
namespace Go.Proofs.Ytaieonajialenaa
open Go.RowKit HP

/-- the slice at A reads the records l -/
def RecsAt (w : World) (A : Option Addr) (l : List Rec) : Prop := RowRd w A (l.flatMap Rec.cells)
theorem RecsAt.kept {w w' : World} {A : Option Addr} {l : List Rec} (h : RecsAt w A l) (hk : Kept w w' No) : RecsAt w' A l := RowRd.kept h hk
theorem RecsAt.at_ {w : World} {A : Option Addr} {l : List Rec} (h : RecsAt w A l) (hl : ∀ r ∈ l, r.Ok) {k : Nat} {r : Rec} (hk : l[k]? = some r) : ∃ g o, A = some ⟨g, o, none⟩ ∧ w.rangeAt g (o + k * 74) r.cells := by
  have hf := flatMap_at (enc := Rec.segs) (sz := 74) (l := l) (fun x hx => by show x.cells.length = 74; exact Rec.length_cells (hl x hx)) k r hk
  obtain ⟨pre, post, h1, h2⟩ := hf
  have h1' : l.flatMap Rec.cells = pre ++ (r.cells ++ post) := h1
  have hne : l.flatMap Rec.cells ≠ [] := by rw [h1']; simp [Rec.cells]
  obtain ⟨g, o, rfl, hc⟩ := h hne
  refine ⟨g, o, rfl, fun j u hu => ?_⟩
  have hj := (List.getElem?_eq_some_iff.1 hu).1
  have := hc (k * 74 + j) u (by rw [h1', List.getElem?_append_right (by omega), h2, Nat.add_sub_cancel_left, List.getElem?_append_left hj]; exact hu)
  rwa [← Nat.add_assoc] at this
theorem runs_ldEnt {P : Program} {o : Oper} {a : Act} {L : List HP} {ty : TypeId} {x : Operand} (ho : o.op = .load ty x) {g off : Nat} (hx : a.eval x = .pointer (some ⟨g, off, none⟩)) {vs : List Value} (hE : ∀ w, Holds w L → w.rangeAt g off vs)
    {d : TypeDesc} (hu : P.underlying ty = some d) (hd : d.isRow = true) (hn : (P.info? ty).map (·.size) = some vs.length) : RunsH P o a L (.agg vs.toArray) := fun w hw => by
  unfold execOp
  simp only [ho, hx, Instr.loadAt, Instr.sureAddr, Sem.run_bind, Sem.run_pure, Result.andThen_ok, run_loadVar_mid w g off ty vs d (hE w hw) hu hd hn]
def fewL (l : List Rec) : Bool := decide (l.length ≤ 60) && l.all fewR
theorem fewL_of {l : List Rec} (h : l.length ≤ 60) (h2 : ∀ r ∈ l, fewR r = true) : fewL l = true := by
  unfold fewL
  rw [decide_eq_true h, List.all_eq_true.2 h2]; rfl
set_option maxRecDepth 100000 in
set_option maxHeartbeats 2000000 in
theorem bkfew_ok (A : Option Addr) (n c : Nat) (l : List Rec) (hl : ∀ r ∈ l, r.Wf) (hn : Hid (n = l.length)) (hm : n ≤ maxLen) (w : World) (R : List HP) (hh : Holds w R) (hr : Ent R fun w => RecsAt w A l) {bo : Bool} (hb : fewL l = bo) :
    Calls Try.prog 16 #[.slice A n c] w fun e w' => e = .returned (.bool bo) ∧ Holds w' R := by
  have HW := Lib.hid hh
  have HR := Lib.hid hr
  have HL := Lib.hid hl
  have HB := Lib.hid hb
  unfold maxLen at hm
  clear hh hr hl hb
  go_enter Try.func16, Try.ntmps16
  go_wp2
  go_loopw [6] (fun i wr => ∃ k : Nat, k ≤ n ∧ k ≤ 60 ∧ i = .int .i64 k ∧ Hid (∀ r ∈ l.take k, fewR r = true) ∧ Holds wr R) (fun i _ => n - (intOf i).toNat)
  case atStart => exact ⟨0, by omega, by omega, rfl, fun _ h => by simp at h, HW.out⟩
  case round =>
    obtain ⟨k, hk, hk60, rfl, hf, hq⟩ := hrel
    clear HW
    have HW := Lib.hid hq
    clear hq
    by_cases hlt : k < n
    · by_cases h60 : k < 60
      · have d60 : decide ((60 : Int) ≤ (k : Int)) = false := decide_eq_false (by omega)
        have d60' : decide (60 ≤ k) = false := decide_eq_false (by omega)
        have hkl : k < l.length := by rw [← hn.out]; exact hlt
        obtain ⟨r, hr⟩ : ∃ r, l[k]? = some r := ⟨_, List.getElem?_eq_getElem hkl⟩
        have hmem := List.mem_of_getElem? hr
        obtain ⟨g, o, hA, -⟩ := (HR.out _ HW.out).at_ (fun r h => (HL.out r h).ok) hr
        subst hA
        have HE : Hid (∀ w, Holds w R → w.rangeAt g (o + k * 74) r.cells) := fun w hw => by
          obtain ⟨g', o', e, h⟩ := (HR.out _ hw).at_ (fun r h => (HL.out r h).ok) hr
          cases e; exact h
        have HRW := Lib.hid (HL.out r hmem)
        have HSN : Hid (l.take (k + 1) = l.take k ++ [r]) := by
          unfold Hid
          rw [List.take_succ_eq_append_getElem hkl]
          rw [List.getElem?_eq_getElem hkl] at hr
          cases hr; rfl
        have HMR := Lib.hid hmem
        clear hr hmem hkl
        cases hfr : fewR r
        · have HFR := Lib.hid hfr; clear hfr
          go_wp2_with (first
            | (refine wpList_runs HW.out rfl (runs_ldEnt (ty := 38) rfl rfl HE.out Try.underlying38 rfl (Rec.sizeLR HRW.out.ok)) ?_; simp only [put_rules])
            | ((go_at_call 25; have hc := fewrec_ok r HRW.out.ok _ _ HW.out; refine hc.mono ?_; clear hc)
               rintro e w2 ⟨rfl, hw'⟩
               rw [HFR.out]
               clear HW; have HW := Lib.hid hw'; clear hw'; (try simp only [hps_rules] at HW)))
          go_ret
          refine ⟨ret_bool ?_, HW.out⟩
          rw [← HB.out]
          unfold fewL
          rw [show l.all fewR = false from List.all_eq_false.2 ⟨r, HMR.out, by rw [HFR.out]; simp⟩, Bool.and_false]
        · have HFR := Lib.hid hfr; clear hfr
          go_wp2_with (first
            | (refine wpList_runs HW.out rfl (runs_ldEnt (ty := 38) rfl rfl HE.out Try.underlying38 rfl (Rec.sizeLR HRW.out.ok)) ?_; simp only [put_rules])
            | ((go_at_call 25; have hc := fewrec_ok r HRW.out.ok _ _ HW.out; refine hc.mono ?_; clear hc)
               rintro e w2 ⟨rfl, hw'⟩
               rw [HFR.out]
               clear HW; have HW := Lib.hid hw'; clear hw'; (try simp only [hps_rules] at HW)))
          go_roundw
          case rel => exact ⟨k + 1, by omega, by omega, by go_num, fun x hx => by
            rw [HSN.out] at hx
            rcases List.mem_append.1 hx with hx | hx
            · exact hf.out x hx
            · rw [List.mem_singleton.1 hx]; exact HFR.out, HW.out⟩
          case measure => simp [intOf]; omega
      · go_wp2
        go_ret
        refine ⟨ret_bool ?_, HW.out⟩
        rw [← HB.out]
        unfold fewL
        rw [decide_eq_false (by rw [← hn.out]; omega)]; rfl
    · go_wp2
      go_ret
      refine ⟨ret_bool ?_, HW.out⟩
      rw [← HB.out, fewL_of (by rw [← hn.out]; omega) (fun r hr => hf.out r (by rw [List.take_of_length_le (by rw [← hn.out]; omega)]; exact hr))]
theorem last_new (s : List UInt8) : (Bk.new s).last = s := rfl
set_option maxRecDepth 100000 in
theorem bkawake_ok (w : World) (R : List HP) (hh : Holds w R) : Calls Try.prog 15 #[] w fun e w' => e = .returned (.bool true) ∧ Holds w' R := by
  have HW := Lib.hid hh
  clear hh
  go_enter Try.func15, Try.ntmps15
  go_wp2_with fail
  refine (bNew_ok [97] (by simp) _ _ HW.out).mono ?_
  rintro e w1 ⟨b, rfl, h1⟩
  obtain ⟨hk, x, h2⟩ := h1.bk_open
  clear HW h1
  have HW : Hid (Holds w1 (BkL b x (Bk.new [97]) R)) := h2
  clear h2
  go_wp2_with (first
    | ((go_at_call 21; have hc := bVersions_ok (Bk.new [97]) b x _ _ HW.out; refine hc.mono ?_; clear hc)
       rintro e w2 ⟨rfl, hw'⟩
       clear HW; have HW := Lib.hid hw'; clear hw'; (try simp only [hps_rules] at HW))
    | ((go_at_call 22; have hc := bLast_ok (Bk.new [97]) b x _ _ HW.out (by decide); refine hc.mono ?_; clear hc)
       rintro e w2 ⟨rfl, hw'⟩
       rw [last_new, strV_eq, show strOf [97] = ⟨#[97]⟩ from rfl]
       clear HW; have HW := Lib.hid hw'; clear hw'; (try simp only [hps_rules] at HW)))
  go_ret
  exact ⟨rfl, (HW.out.bk_close hk).tail⟩
end Go.Proofs.Ytaieonajialenaa
