/- The reference's book: Edits, Prepared, Versions, Last. -/
import Derived.Test.YtaieonajialenaaBookN
namespace Go.Proofs.Ytaieonajialenaa
open Go.RowKit HP

section
variable {p : Nat} {A : Option Addr} {c : Nat} {first : List UInt8} {Q : List Rec} {w : World} {R : List HP}
/-- an element of the row: where it stands -/
theorem RbL.at_ (h : Holds w (RbL p A c first Q R)) {i : Nat} (hi : i < Q.length) : ∃ g, A = some ⟨g, 0, none⟩ := by
  obtain ⟨A', c', he, hc, hc2, hg⟩ := h.arr_form 1 rfl
  cases he
  exact hg (fun e => by rw [e] at hi; simp at hi)
theorem take_snocA {α : Type} {l : List α} {i : Nat} {x : α} (h : l[i]? = some x) : l.take (i + 1) = l.take i ++ [x] := by
  have hi := (List.getElem?_eq_some_iff.1 h).1
  rw [List.take_succ_eq_append_getElem hi]
  rw [List.getElem?_eq_getElem hi] at h
  cases h; rfl
theorem rbfind_none (bs : List UInt8) (hbs : ∀ b ∈ bs, digit b) (hbl : bs.length ≤ 10) {ks : Int → Bool} (hks : ksOf bs = ks) {sv : ByteArray} (hsv : strOf bs = sv) (id : Nat) (hQ : Q.length ≤ 1000) (hh : Holds w (RbL p A c first Q R)) (hn : rfind ks id Q = none) :
    Calls Try.prog 66 #[.pointer (some ⟨p, 0, none⟩), .string sv, .int .u64 (id : Int)] w fun e w' => e = .returned (.int .i64 (-1)) ∧ Holds w' (RbL p A c first Q R) := by
  subst hsv hks
  refine (rbfind_ok bs hbs hbl id p A c first Q hQ w R hh).mono ?_
  rintro e w' ⟨i, rfl, ⟨j, r, -, -, h⟩ | ⟨rfl, -⟩, hw⟩
  · rw [hn] at h; cases h
  · exact ⟨rfl, hw⟩
theorem rbfind_some (bs : List UInt8) (hbs : ∀ b ∈ bs, digit b) (hbl : bs.length ≤ 10) {ks : Int → Bool} (hks : ksOf bs = ks) {sv : ByteArray} (hsv : strOf bs = sv) (id : Nat) (hQ : Q.length ≤ 1000) (hh : Holds w (RbL p A c first Q R)) {r : Rec} (hn : rfind ks id Q = some r) :
    Calls Try.prog 66 #[.pointer (some ⟨p, 0, none⟩), .string sv, .int .u64 (id : Int)] w fun e w' => ∃ j : Nat, e = .returned (.int .i64 (j : Int)) ∧ Hid (Q[j]? = some r) ∧ j < Q.length ∧ j ≤ 1000 ∧ Holds w' (RbL p A c first Q R) := by
  subst hsv hks
  refine (rbfind_ok bs hbs hbl id p A c first Q hQ w R hh).mono ?_
  rintro e w' ⟨i, rfl, ⟨j, r', rfl, hj, h⟩ | ⟨rfl, h⟩, hw⟩
  · rw [hn] at h; cases h
    have hlt := (List.getElem?_eq_some_iff.1 hj).1
    exact ⟨j, rfl, hj, hlt, by omega, hw⟩
  · rw [hn] at h; cases h
theorem dig {b : UInt8} {l : List UInt8} (hl : l.all (fun b => decide (48 ≤ b.toNat) && decide (b.toNat ≤ 57)) = true) (h : b ∈ l) : digit b := by
  have := List.all_eq_true.1 hl b h
  simpa [digit] using this
theorem ks1 : ksOf [49] = k1 := by funext k; simp [ksOf, k1]
theorem ks2 : ksOf [50] = k2 := by funext k; simp [ksOf, k2]
theorem ks4 : ksOf [52] = k4 := by funext k; simp [ksOf, k4]
theorem ks23 : ksOf [50, 51] = k23 := by funext k; simp [ksOf, k23]
theorem ks234 : ksOf [50, 51, 52] = k234 := by funext k; simp [ksOf, k234]
def rEdits (Q : List Rec) : Nat := (Q.filter fun r => r.kind == 1).length
theorem rEdits_snoc (Q : List Rec) (r : Rec) : rEdits (Q ++ [r]) = rEdits Q + (if (r.kind == 1) = true then 1 else 0) := by
  unfold rEdits
  rw [List.filter_append, List.length_append]
  congr 1
  simp only [List.filter_cons, List.filter_nil]
  split <;> rfl
theorem rEdits_le (Q : List Rec) : rEdits Q ≤ Q.length := List.length_filter_le _ _
def rVers (first : List UInt8) (Q : List Rec) : List (List UInt8) := first :: (Q.filter Rec.has).map Rec.text
theorem rVers_snoc (first : List UInt8) (Q : List Rec) (r : Rec) : rVers first (Q ++ [r]) = rVers first Q ++ (if r.has = true then [r.text] else []) := by
  unfold rVers
  rw [List.filter_append, List.map_append, List.cons_append]
  congr 2
  simp only [List.filter_cons, List.filter_nil]
  split <;> rfl
theorem rVers_le (first : List UInt8) (Q : List Rec) : (rVers first Q).length ≤ Q.length + 1 := by
  unfold rVers
  simp only [List.length_cons, List.length_map]
  have := List.length_filter_le Rec.has Q
  omega
variable (hQ : Q.length ≤ 1000) (hh : Holds w (RbL p A c first Q R))
include hQ hh
set_option maxRecDepth 100000 in
set_option maxHeartbeats 1000000 in
theorem rbEdits_ok : Calls Try.prog 65 #[.pointer (some ⟨p, 0, none⟩)] w fun e w' => e = .returned (.int .i64 (rEdits Q : Int)) ∧ Holds w' (RbL p A c first Q R) := by
  have HW : Hid (Holds w (_ :: _)) := hh
  clear hh
  go_enter Try.func65, Try.ntmps65
  go_wp2_with (first
    | (refine wpList_runs HW.out rfl (runs_ld1 0 rfl rfl rfl rfl (by kernel_rfl)) ?_; simp only [put_rules]))
  go_loopw [3, 10] (fun t v wr => ∃ i : Nat, i ≤ Q.length ∧ v = .int .i64 i ∧ t = .int .i64 (rEdits (Q.take i) : Nat) ∧ Holds wr (RbL p A c first Q R)) (fun _ v _ => Q.length - (intOf v).toNat)
  case atStart => exact ⟨0, by omega, rfl, rfl, HW.out⟩
  case round =>
    obtain ⟨i, hi, rfl, rfl, hq⟩ := hrel
    clear HW
    have HW : Hid (Holds _ (_ :: _)) := hq
    clear hq
    by_cases hlt : i < Q.length
    · obtain ⟨r, hr⟩ : ∃ r, Q[i]? = some r := ⟨_, List.getElem?_eq_getElem hlt⟩
      obtain ⟨g, rfl⟩ := RbL.at_ HW.out hlt
      have HR := Lib.hid hr
      have HS := Lib.hid (take_snocA hr)
      have hi1 : i ≤ 1000 := by omega
      have hm := rEdits_le (Q.take i)
      rw [List.length_take] at hm
      obtain ⟨m, HM⟩ : ∃ m, Hid (rEdits (Q.take i) = m) := ⟨_, rfl⟩
      rw [HM.out] at hm ⊢
      have hm1 : m ≤ 1000 := by omega
      clear hr hm
      by_cases h1 : r.kind = 1
      · have e1 : (r.kind == 1) = true := by rw [h1]; rfl
        go_wp2_with (first
          | (refine wpList_runs HW.out rfl (runs_ld1 0 rfl rfl rfl rfl (by kernel_rfl)) ?_; simp only [put_rules])
          | (refine wpList_runs HW.out rfl (runs_ldrowF 1 rfl rfl rfl HR.out (f := 0) rfl rfl (by kernel_rfl)) ?_; simp only [put_rules]))
        go_roundw
        case rel => exact ⟨i + 1, by omega, by go_num, by rw [HS.out, rEdits_snoc, e1, HM.out]; rfl, HW.out⟩
        case measure => simp [intOf]; omega
      · have e1 : (r.kind == 1) = false := beq_eq_false_iff_ne.2 h1
        go_wp2_with (first
          | (refine wpList_runs HW.out rfl (runs_ld1 0 rfl rfl rfl rfl (by kernel_rfl)) ?_; simp only [put_rules])
          | (refine wpList_runs HW.out rfl (runs_ldrowF 1 rfl rfl rfl HR.out (f := 0) rfl rfl (by kernel_rfl)) ?_; simp only [put_rules]))
        go_roundw
        case rel => exact ⟨i + 1, by omega, by go_num, by rw [HS.out, rEdits_snoc, e1, HM.out]; rfl, HW.out⟩
        case measure => simp [intOf]; omega
    · go_wp2
      go_ret
      exact ⟨by rw [List.take_of_length_le (by omega)]; rfl, HW.out⟩
set_option maxRecDepth 100000 in
set_option maxHeartbeats 1000000 in
theorem rbVersions_ok : Calls Try.prog 68 #[.pointer (some ⟨p, 0, none⟩)] w fun e w' => ∃ v, e = .returned v ∧ Holds w' (arr 9 1 tsegs v (rVers first Q) :: RbL p A c first Q R) := by
  have HW : Hid (Holds w (_ :: _)) := hh
  clear hh
  have HT := Lib.hid (tsegs_ok first)
  go_enter Try.func68, Try.ntmps68
  go_wp2_with (first
    | (refine wpList_runs HW.out rfl (runs_ld1 0 rfl rfl rfl rfl (by kernel_rfl)) ?_; simp only [put_rules])
    | (refine wpList_runs HW.out rfl (runs_ld1 1 rfl rfl rfl rfl (by kernel_rfl)) ?_; simp only [put_rules])
    | (refine wpList_slice1 HW.out rfl rfl Try.underlying112 (z := .string ⟨#[]⟩) (n := 1) (by kernel_rfl) (by decide) (by decide) (M := tsegs first) rfl HT.out rfl (fun g2 w' hw' => ?_)
       replace hw' := hw'.sblk_arr1 0 (enc := tsegs) (sz := 1) first rfl rfl
       clear HW; have HW := Lib.hid hw'; clear hw'; (try simp only [hps_rules] at HW); (try simp only [put_rules])))
  go_loopw [3, 15] (fun t v wr => ∃ (i : Nat), i ≤ Q.length ∧ v = .int .i64 i ∧ Holds wr (arr 9 1 tsegs t (rVers first (Q.take i)) :: RbL p A c first Q R)) (fun _ v _ => Q.length - (intOf v).toNat)
  case atStart => exact ⟨0, by omega, rfl, HW.out⟩
  case round =>
    obtain ⟨i, hi, rfl, hq⟩ := hrel
    clear HW
    have HW : Hid (Holds _ (_ :: _ :: _)) := hq
    clear hq
    obtain ⟨A1, c1, rfl, -, -, -⟩ := HW.out.arr_form 0 rfl
    by_cases hlt : i < Q.length
    · obtain ⟨r, hr⟩ : ∃ r, Q[i]? = some r := ⟨_, List.getElem?_eq_getElem hlt⟩
      obtain ⟨g, rfl⟩ := RbL.at_ HW.out.tail hlt
      have HR := Lib.hid hr
      have HS := Lib.hid (take_snocA hr)
      have hi1 : i ≤ 1000 := by omega
      have hm := rVers_le first (Q.take i)
      rw [List.length_take] at hm
      obtain ⟨m, HM⟩ : ∃ m, Hid (rVers first (Q.take i) = m) := ⟨_, rfl⟩
      rw [HM.out] at hm HW ⊢
      have HL : Hid (m.length + 1 ≤ maxLen ∧ (m.length + 1) * 16 ≤ 140737488355328) := by unfold Hid maxLen; omega
      have HX := Lib.hid (tsegs_ok r.text)
      clear hr hm
      cases h1 : r.has
      · go_wp2_with (first
          | (refine wpList_runs HW.out rfl (runs_ld1 1 rfl rfl rfl rfl (by kernel_rfl)) ?_; simp only [put_rules])
          | (refine wpList_runs HW.out rfl (runs_ldrowF 2 rfl rfl rfl HR.out (f := 72) rfl rfl (by kernel_rfl)) ?_; simp only [put_rules, h1]))
        go_roundw
        case rel => exact ⟨i + 1, by omega, by go_num, by rw [HS.out, rVers_snoc, h1, HM.out, if_neg (by simp), List.append_nil]; exact HW.out⟩
        case measure => simp [intOf]; omega
      · go_wp2_with (first
          | (refine wpList_runs HW.out rfl (runs_ld1 1 rfl rfl rfl rfl (by kernel_rfl)) ?_; simp only [put_rules])
          | (refine wpList_runs HW.out rfl (runs_ldrowF 2 rfl rfl rfl HR.out (f := 72) rfl rfl (by kernel_rfl)) ?_; simp only [put_rules, h1])
          | (refine wpList_runs HW.out rfl (runs_ldrowF 2 rfl rfl rfl HR.out (f := 73) rfl rfl (by kernel_rfl)) ?_; simp only [put_rules])
          | (refine wpList_slice1 HW.out rfl rfl Try.underlying112 (z := .string ⟨#[]⟩) (n := 1) (by kernel_rfl) (by decide) (by decide) (M := tsegs r.text) rfl HX.out rfl (fun g2 w' hw' => ?_)
             clear HW; have HW := Lib.hid hw'; clear hw'; (try simp only [hps_rules] at HW); (try simp only [put_rules]))
          | (refine wpList_app1 HW.out 1 0 rfl rfl rfl rfl rfl r.text rfl HX.out rfl Try.underlying112 (.string ⟨#[]⟩) 16 (by kernel_rfl) rfl (by decide) HL.out.1 HL.out.2 (fun v' w' hw' => ?_)
             clear HW; have HW := Lib.hid hw'; clear hw'; (try simp only [hps_rules] at HW); (try simp only [put_rules])))
        go_roundw
        case rel => exact ⟨i + 1, by omega, by go_num, by rw [HS.out, rVers_snoc, h1, HM.out]; exact HW.out.tail⟩
        case measure => simp [intOf]; omega
    · go_wp2
      go_ret
      refine ⟨_, rfl, ?_⟩
      have HT : Q.take i = Q := List.take_of_length_le (by omega)
      rw [HT] at HW ⊢
      exact HW.out
end
end Go.Proofs.Ytaieonajialenaa
