/- The reference's book: Prepared, Last, Edit, Vote, End. -/
import Derived.Test.YtaieonajialenaaBookO
namespace Go.Proofs.Ytaieonajialenaa
open Go.RowKit HP

section
variable {p : Nat} {A : Option Addr} {c : Nat} {first : List UInt8} {Q : List Rec} {w : World} {R : List HP}
theorem rbfind_none4 (id : Nat) (hQ : Q.length ≤ 1000) (hh : Holds w (RbL p A c first Q R)) (hn : rfind k4 id Q = none) :
    Calls Try.prog 66 #[.pointer (some ⟨p, 0, none⟩), .string ⟨#[52]⟩, .int .u64 (id : Int)] w fun e w' => e = .returned (.int .i64 (-1)) ∧ Holds w' (RbL p A c first Q R) :=
  rbfind_none [52] (fun _ h => dig (by decide) h) (by decide) ks4 rfl id hQ hh hn
theorem rbfind_some4 (id : Nat) (hQ : Q.length ≤ 1000) (hh : Holds w (RbL p A c first Q R)) {r : Rec} (hn : rfind k4 id Q = some r) :
    Calls Try.prog 66 #[.pointer (some ⟨p, 0, none⟩), .string ⟨#[52]⟩, .int .u64 (id : Int)] w fun e w' => ∃ j : Nat, e = .returned (.int .i64 (j : Int)) ∧ Hid (Q[j]? = some r) ∧ j < Q.length ∧ j ≤ 1000 ∧ Holds w' (RbL p A c first Q R) :=
  rbfind_some [52] (fun _ h => dig (by decide) h) (by decide) ks4 rfl id hQ hh hn
theorem rbfind_none1 (id : Nat) (hQ : Q.length ≤ 1000) (hh : Holds w (RbL p A c first Q R)) (hn : rfind k1 id Q = none) :
    Calls Try.prog 66 #[.pointer (some ⟨p, 0, none⟩), .string ⟨#[49]⟩, .int .u64 (id : Int)] w fun e w' => e = .returned (.int .i64 (-1)) ∧ Holds w' (RbL p A c first Q R) :=
  rbfind_none [49] (fun _ h => dig (by decide) h) (by decide) ks1 rfl id hQ hh hn
theorem rbfind_some1 (id : Nat) (hQ : Q.length ≤ 1000) (hh : Holds w (RbL p A c first Q R)) {r : Rec} (hn : rfind k1 id Q = some r) :
    Calls Try.prog 66 #[.pointer (some ⟨p, 0, none⟩), .string ⟨#[49]⟩, .int .u64 (id : Int)] w fun e w' => ∃ j : Nat, e = .returned (.int .i64 (j : Int)) ∧ Hid (Q[j]? = some r) ∧ j < Q.length ∧ j ≤ 1000 ∧ Holds w' (RbL p A c first Q R) :=
  rbfind_some [49] (fun _ h => dig (by decide) h) (by decide) ks1 rfl id hQ hh hn
theorem rbfind_none2 (id : Nat) (hQ : Q.length ≤ 1000) (hh : Holds w (RbL p A c first Q R)) (hn : rfind k2 id Q = none) :
    Calls Try.prog 66 #[.pointer (some ⟨p, 0, none⟩), .string ⟨#[50]⟩, .int .u64 (id : Int)] w fun e w' => e = .returned (.int .i64 (-1)) ∧ Holds w' (RbL p A c first Q R) :=
  rbfind_none [50] (fun _ h => dig (by decide) h) (by decide) ks2 rfl id hQ hh hn
theorem rbfind_some2 (id : Nat) (hQ : Q.length ≤ 1000) (hh : Holds w (RbL p A c first Q R)) {r : Rec} (hn : rfind k2 id Q = some r) :
    Calls Try.prog 66 #[.pointer (some ⟨p, 0, none⟩), .string ⟨#[50]⟩, .int .u64 (id : Int)] w fun e w' => ∃ j : Nat, e = .returned (.int .i64 (j : Int)) ∧ Hid (Q[j]? = some r) ∧ j < Q.length ∧ j ≤ 1000 ∧ Holds w' (RbL p A c first Q R) :=
  rbfind_some [50] (fun _ h => dig (by decide) h) (by decide) ks2 rfl id hQ hh hn
theorem rbfind_none23 (id : Nat) (hQ : Q.length ≤ 1000) (hh : Holds w (RbL p A c first Q R)) (hn : rfind k23 id Q = none) :
    Calls Try.prog 66 #[.pointer (some ⟨p, 0, none⟩), .string ⟨#[50, 51]⟩, .int .u64 (id : Int)] w fun e w' => e = .returned (.int .i64 (-1)) ∧ Holds w' (RbL p A c first Q R) :=
  rbfind_none [50, 51] (fun _ h => dig (by decide) h) (by decide) ks23 rfl id hQ hh hn
theorem rbfind_some23 (id : Nat) (hQ : Q.length ≤ 1000) (hh : Holds w (RbL p A c first Q R)) {r : Rec} (hn : rfind k23 id Q = some r) :
    Calls Try.prog 66 #[.pointer (some ⟨p, 0, none⟩), .string ⟨#[50, 51]⟩, .int .u64 (id : Int)] w fun e w' => ∃ j : Nat, e = .returned (.int .i64 (j : Int)) ∧ Hid (Q[j]? = some r) ∧ j < Q.length ∧ j ≤ 1000 ∧ Holds w' (RbL p A c first Q R) :=
  rbfind_some [50, 51] (fun _ h => dig (by decide) h) (by decide) ks23 rfl id hQ hh hn
theorem rbfind_none234 (id : Nat) (hQ : Q.length ≤ 1000) (hh : Holds w (RbL p A c first Q R)) (hn : rfind k234 id Q = none) :
    Calls Try.prog 66 #[.pointer (some ⟨p, 0, none⟩), .string ⟨#[50, 51, 52]⟩, .int .u64 (id : Int)] w fun e w' => e = .returned (.int .i64 (-1)) ∧ Holds w' (RbL p A c first Q R) :=
  rbfind_none [50, 51, 52] (fun _ h => dig (by decide) h) (by decide) ks234 rfl id hQ hh hn
theorem rbfind_some234 (id : Nat) (hQ : Q.length ≤ 1000) (hh : Holds w (RbL p A c first Q R)) {r : Rec} (hn : rfind k234 id Q = some r) :
    Calls Try.prog 66 #[.pointer (some ⟨p, 0, none⟩), .string ⟨#[50, 51, 52]⟩, .int .u64 (id : Int)] w fun e w' => ∃ j : Nat, e = .returned (.int .i64 (j : Int)) ∧ Hid (Q[j]? = some r) ∧ j < Q.length ∧ j ≤ 1000 ∧ Holds w' (RbL p A c first Q R) :=
  rbfind_some [50, 51, 52] (fun _ h => dig (by decide) h) (by decide) ks234 rfl id hQ hh hn
theorem rPrep_at {i : Nat} {r : Rec} (hi : Q[i]? = some r) (hr : (r.kind == 2 && (rfind k4 r.id Q).isNone) = true) (hb : ∀ x ∈ Q.take i, (x.kind == 2 && (rfind k4 x.id Q).isNone) = false) : rPrep Q = r.id := by
  have hlt := (List.getElem?_eq_some_iff.1 hi).1
  have he : Q = Q.take i ++ r :: Q.drop (i + 1) := by
    have h2 := (List.getElem?_eq_some_iff.1 hi).2
    rw [← h2]
    exact (List.take_append_drop i Q).symm.trans (by rw [List.drop_eq_getElem_cons hlt])
  unfold rPrep
  have : (Q.find? fun r => r.kind == 2 && (rfind k4 r.id Q).isNone) = some r := by
    generalize hg : (fun r : Rec => r.kind == 2 && (rfind k4 r.id Q).isNone) = g at *
    have hr' : g r = true := by rw [← hg]; exact hr
    have hb' : ∀ x ∈ Q.take i, g x = false := fun x hx => by rw [← hg]; exact hb x hx
    rw [he, List.find?_append, List.find?_eq_none.2 (fun x hx => by rw [hb' x hx]; simp), List.find?_cons, hr']
    rfl
  rw [this]; rfl
theorem rPrep_no (h : ∀ x ∈ Q, (x.kind == 2 && (rfind k4 x.id Q).isNone) = false) : rPrep Q = 0 := by
  unfold rPrep
  rw [List.find?_eq_none.2 fun x hx => by rw [h x hx]; simp]
  rfl
def rLast (first : List UInt8) (Q : List Rec) : List UInt8 := (rVers first Q)[(rVers first Q).length - 1]?.getD []
theorem rLast_at (first : List UInt8) (Q : List Rec) : (rVers first Q)[(rVers first Q).length - 1]? = some (rLast first Q) := by
  unfold rLast
  have h0 : (rVers first Q).length - 1 < (rVers first Q).length := by
    have : 0 < (rVers first Q).length := by simp [rVers]
    omega
  rw [List.getElem?_eq_getElem h0]
  rfl
variable (hQ : Q.length ≤ 1000) (hh : Holds w (RbL p A c first Q R))
include hQ hh
set_option maxRecDepth 100000 in
set_option maxHeartbeats 1000000 in
theorem rbPrepared_ok : Calls Try.prog 67 #[.pointer (some ⟨p, 0, none⟩)] w fun e w' => e = .returned (.int .u64 (rPrep Q : Int)) ∧ Holds w' (RbL p A c first Q R) := by
  have HW : Hid (Holds w (_ :: _)) := hh
  clear hh
  go_enter Try.func67, Try.ntmps67
  go_wp2_with (first
    | (refine wpList_runs HW.out rfl (runs_ld1 0 rfl rfl rfl rfl (by kernel_rfl)) ?_; simp only [put_rules]))
  go_loopw [9] (fun v wr => ∃ i : Nat, i ≤ Q.length ∧ v = .int .i64 i ∧ Hid (∀ x ∈ Q.take i, (x.kind == 2 && (rfind k4 x.id Q).isNone) = false) ∧ Holds wr (RbL p A c first Q R)) (fun v _ => Q.length - (intOf v).toNat)
  case atStart => exact ⟨0, by omega, rfl, fun _ h => by simp at h, HW.out⟩
  case round =>
    obtain ⟨i, hi, rfl, hf, hq⟩ := hrel
    clear HW
    have HW : Hid (Holds _ (_ :: _)) := hq
    clear hq
    by_cases hlt : i < Q.length
    · obtain ⟨r, hr⟩ : ∃ r, Q[i]? = some r := ⟨_, List.getElem?_eq_getElem hlt⟩
      obtain ⟨g, rfl⟩ := RbL.at_ HW.out hlt
      have HR := Lib.hid hr
      have HS := Lib.hid (take_snocA hr)
      have hi1 : i ≤ 1000 := by omega
      have HN : (r.kind == 2 && (rfind k4 r.id Q).isNone) = false → Hid (∀ x ∈ Q.take (i + 1), (x.kind == 2 && (rfind k4 x.id Q).isNone) = false) := fun h x hx => by
        rw [HS.out] at hx
        rcases List.mem_append.1 hx with hx | hx
        · exact hf.out x hx
        · rw [List.mem_singleton.1 hx]; exact h
      have HNN := Lib.hid HN
      clear hr HN
      by_cases h1 : r.kind = 2
      · have e1 : (r.kind == 2) = true := by rw [h1]; rfl
        cases h4 : rfind k4 r.id Q with
        | none =>
          have H4 := Lib.hid h4
          clear h4
          go_wp2_with (first
            | (refine wpList_runs HW.out rfl (runs_ld1 0 rfl rfl rfl rfl (by kernel_rfl)) ?_; simp only [put_rules])
            | (refine wpList_runs HW.out rfl (runs_ldrowF 1 rfl rfl rfl HR.out (f := 0) rfl rfl (by kernel_rfl)) ?_; simp only [put_rules])
            | (refine wpList_runs HW.out rfl (runs_ldrowF 1 rfl rfl rfl HR.out (f := 1) rfl rfl (by kernel_rfl)) ?_; simp only [put_rules])
            | ((go_at_call 66; have hc := rbfind_none4 r.id hQ HW.out H4.out; with_reducible refine hc.mono ?_; clear hc)
               rintro e w2 ⟨rfl, hw'⟩
               clear HW; have HW := Lib.hid hw'; clear hw'; (try simp only [hps_rules] at HW)))
          go_ret
          exact ⟨by rw [rPrep_at HR.out (by rw [e1, H4.out]; rfl) hf.out]; rfl, HW.out⟩
        | some r4 =>
          have H4 := Lib.hid h4
          clear h4
          go_wp2_with (first
            | (refine wpList_runs HW.out rfl (runs_ld1 0 rfl rfl rfl rfl (by kernel_rfl)) ?_; simp only [put_rules])
            | (refine wpList_runs HW.out rfl (runs_ldrowF 1 rfl rfl rfl HR.out (f := 0) rfl rfl (by kernel_rfl)) ?_; simp only [put_rules])
            | (refine wpList_runs HW.out rfl (runs_ldrowF 1 rfl rfl rfl HR.out (f := 1) rfl rfl (by kernel_rfl)) ?_; simp only [put_rules])
            | (go_at_call 66; have hc := rbfind_some4 r.id hQ HW.out H4.out; with_reducible refine hc.mono ?_; clear hc
               rintro e w2 ⟨j, rfl, -, -, hj9, hw'⟩
               clear HW; have HW := Lib.hid hw'; clear hw'; (try simp only [hps_rules] at HW); (try simp only [put_rules])))
          go_roundw
          case rel => exact ⟨i + 1, by omega, by go_num, HNN.out (by rw [e1, H4.out]; rfl), HW.out⟩
          case measure => simp [intOf]; omega
      · have e1 : (r.kind == 2) = false := beq_eq_false_iff_ne.2 h1
        go_wp2_with (first
          | (refine wpList_runs HW.out rfl (runs_ld1 0 rfl rfl rfl rfl (by kernel_rfl)) ?_; simp only [put_rules])
          | (refine wpList_runs HW.out rfl (runs_ldrowF 1 rfl rfl rfl HR.out (f := 0) rfl rfl (by kernel_rfl)) ?_; simp only [put_rules]))
        go_roundw
        case rel => exact ⟨i + 1, by omega, by go_num, HNN.out (by rw [e1]; rfl), HW.out⟩
        case measure => simp [intOf]; omega
    · go_wp2
      go_ret
      have HT : Q.take i = Q := List.take_of_length_le (by omega)
      rw [HT] at hf
      exact ⟨by rw [rPrep_no hf.out]; rfl, HW.out⟩
set_option maxRecDepth 100000 in
set_option maxHeartbeats 1000000 in
theorem rbLast_ok : Calls Try.prog 69 #[.pointer (some ⟨p, 0, none⟩)] w fun e w' => e = .returned (strV (rLast first Q)) ∧ Holds w' (RbL p A c first Q R) := by
  have hl := rVers_le first Q
  have HLA := Lib.hid (rLast_at first Q)
  have h0 : 0 < (rVers first Q).length := by simp [rVers]
  have HC := Lib.hid (rbVersions_ok hQ hh)
  generalize rVers first Q = V at *
  obtain ⟨n, hn⟩ : ∃ n, V.length = n + 1 := ⟨V.length - 1, by omega⟩
  have HN := Lib.hid hn
  have hn9 : n ≤ 1001 := by omega
  clear hl h0 hn hh
  go_enter Try.func69, Try.ntmps69
  go_wp2_with (first
    | (go_at_call 68; have hc := HC.out; with_reducible refine hc.mono ?_; clear hc
       rintro e w2 ⟨v, rfl, hw⟩
       have HW : Hid (Holds w2 (_ :: _ :: _)) := hw
       obtain ⟨A1, c1, rfl, hn1, hn2, hg⟩ := HW.out.arr_form 0 rfl
       obtain ⟨g, rfl⟩ := hg (fun e => by rw [e] at HN; exact absurd HN.out (by simp))
       clear hg hw
       rw [HN.out] at HW HLA hn1
       rw [HN.out]
       rw [Nat.add_sub_cancel] at HLA
       unfold maxLen at hn2)
    | (refine wpList_runs HW.out rfl (runs_ldrow1 0 rfl rfl rfl HLA.out rfl rfl (by kernel_rfl)) ?_; simp only [put_rules]))
  go_ret
  exact ⟨rfl, HW.out.tail⟩
end
end Go.Proofs.Ytaieonajialenaa
