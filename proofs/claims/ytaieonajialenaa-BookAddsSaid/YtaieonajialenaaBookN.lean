/- The reference's book in memory; find. -/
import Derived.Test.YtaieonajialenaaBookM
import Derived.Test.YtaieonajialenaaEff
namespace Go.Proofs.Ytaieonajialenaa
open Go.RowKit HP

/-- one field of an element of a row -/
theorem runs_ldrowF {P : Program} {o : Oper} {a : Act} {L : List HP} {α : Type} {E : TypeId} {sz : Nat} {enc : α → List Sg} {l : List α} (i : Nat) {ty : TypeId} {x : Operand} (ho : o.op = .load ty x) {g off n c : Nat} (hx : a.eval x = .pointer (some ⟨g, off, none⟩)) (hi : L[i]? = some (arr E sz enc (.slice (some ⟨g, 0, none⟩) n c) l))
    {k : Nat} {y : α} (hk : l[k]? = some y) {f : Nat} {a' b' : List Sg} {v : Value} (hc : cutSg (enc y) f 1 = some (a', [.o v], b')) (hoff : off = k * sz + f) (hd : (P.underlying ty).map TypeDesc.isRow = some false) : RunsH P o a L v := fun w hw => by
  have hxs := ((hw.pull i hi).cond_).1 y (List.mem_of_getElem? hk)
  obtain ⟨h2, h3, _⟩ := flat_cut hxs.1 hc
  have hr := hw.arr_range i hi hk f v (by rw [h2, List.getElem?_append_right (by omega), h3, Nat.sub_self]; rfl)
  unfold execOp
  simp only [ho, hx, Instr.loadAt, Instr.sureAddr, Sem.run_bind, Sem.run_pure, Result.andThen_ok, run_loadVar_one hd (show w.cell? ⟨g, off, none⟩ = some v by rw [hoff]; exact hr)]
/-- a run of fields of an element of a row -/
theorem runs_ldrowG {P : Program} {o : Oper} {a : Act} {L : List HP} {α : Type} {E : TypeId} {sz : Nat} {enc : α → List Sg} {l : List α} (i : Nat) {ty : TypeId} {x : Operand} (ho : o.op = .load ty x) {g off n c : Nat} (hx : a.eval x = .pointer (some ⟨g, off, none⟩)) (hi : L[i]? = some (arr E sz enc (.slice (some ⟨g, 0, none⟩) n c) l))
    {k : Nat} {y : α} (hk : l[k]? = some y) {f m : Nat} {a' M b' : List Sg} (hc : cutSg (enc y) f m = some (a', M, b')) (hoff : off = k * sz + f) {d : TypeDesc} (hu : P.underlying ty = some d) (hd : d.isRow = true) (hn : (P.info? ty).map (·.size) = some m) : RunsH P o a L (.agg (flat M).toArray) := fun w hw => by
  have hxs := ((hw.pull i hi).cond_).1 y (List.mem_of_getElem? hk)
  obtain ⟨h2, h3, h4, _⟩ := flat_cut hxs.1 hc
  have hr : w.rangeAt g off (flat M) := fun j u hu => by
    have hj := (List.getElem?_eq_some_iff.1 hu).1
    have := hw.arr_range i hi hk (f + j) u (by rw [h2, List.getElem?_append_right (by omega), h3, Nat.add_sub_cancel_left, List.getElem?_append_left hj]; exact hu)
    rw [hoff, Nat.add_assoc]; exact this
  unfold execOp
  simp only [ho, hx, Instr.loadAt, Instr.sureAddr, Sem.run_bind, Sem.run_pure, Result.andThen_ok, run_loadVar_mid w g off ty (flat M) d hr hu hd (by rw [h4]; exact hn)]
def RbS (first : List UInt8) (A : Option Addr) (n c : Nat) : List Sg := [.o (.string (strOf first)), .o (.slice A n c)]
def RbL (p : Nat) (A : Option Addr) (c : Nat) (first : List UInt8) (Q : List Rec) (R : List HP) : List HP := sblk p 58 (RbS first A Q.length c) :: arr 38 74 Rec.segs (.slice A Q.length c) Q :: R
def RbH (p : Nat) (first : List UInt8) (Q : List Rec) : HP := ex fun x : Option Addr × Nat => HP.all (RbL p x.1 x.2 first Q [])
theorem Holds.rb_open {w : World} {p : Nat} {first : List UInt8} {Q : List Rec} {R : List HP} (h : Holds w (RbH p first Q :: R)) : ∃ A c, Holds w (RbL p A c first Q R) := by
  obtain ⟨⟨A, c⟩, h⟩ := h.ex_
  exact ⟨A, c, h.all_open⟩
theorem Holds.rb_close {w : World} {p : Nat} {first : List UInt8} {Q : List Rec} {A : Option Addr} {c : Nat} {R : List HP} (h : Holds w (RbL p A c first Q R)) : Holds w (RbH p first Q :: R) :=
  Holds.mk_ex (A, c) (Holds.all_close (l := RbL p A c first Q []) h)
/-- the kinds that a text names -/
def ksOf (bs : List UInt8) (k : Int) : Bool := bs.any fun b => k == (b.toNat : Int) - 48
/-- what find answers -/
def FindRes (ks : Int → Bool) (id : Nat) (Q : List Rec) (i : Int) : Prop := (∃ (j : Nat) (r : Rec), i = j ∧ Q[j]? = some r ∧ rfind ks id Q = some r) ∨ (i = -1 ∧ rfind ks id Q = none)
theorem rfind_at {ks : Int → Bool} {id : Nat} {Q : List Rec} {i : Nat} {r : Rec} (hi : Q[i]? = some r) (hr : isK ks id r = true) (hb : ∀ x ∈ Q.take i, isK ks id x = false) : rfind ks id Q = some r := by
  have hlt := (List.getElem?_eq_some_iff.1 hi).1
  have he : Q = Q.take i ++ r :: Q.drop (i + 1) := by
    have h2 := (List.getElem?_eq_some_iff.1 hi).2
    rw [← h2]
    exact (List.take_append_drop i Q).symm.trans (by rw [List.drop_eq_getElem_cons hlt])
  unfold rfind
  rw [he, List.find?_append, List.find?_eq_none.2 (fun x hx => by rw [hb x hx]; simp), List.find?_cons, hr]
  rfl
def digit (b : UInt8) : Prop := 48 ≤ b.toNat ∧ b.toNat ≤ 57
theorem rfind_no {ks : Int → Bool} {id : Nat} {Q : List Rec} (h : ∀ x ∈ Q, isK ks id x = false) : rfind ks id Q = none := by
  unfold rfind
  exact List.find?_eq_none.2 fun x hx => by rw [h x hx]; simp
theorem ksOf_no {bs : List UInt8} {k : Int} (h : ∀ b ∈ bs, (k == (b.toNat : Int) - 48) = false) : ksOf bs k = false := by
  unfold ksOf
  exact List.any_eq_false.2 fun b hb => by rw [h b hb]; simp
set_option maxRecDepth 100000 in
set_option maxHeartbeats 4000000 in
theorem rbfind_ok (bs : List UInt8) (hbs : ∀ b ∈ bs, digit b) (hbl : bs.length ≤ 10) (id : Nat) (p : Nat) (A : Option Addr) (c : Nat) (first : List UInt8) (Q : List Rec) (hQ : Q.length ≤ 1000) (w : World) (R : List HP) (hh : Holds w (RbL p A c first Q R)) :
    Calls Try.prog 66 #[.pointer (some ⟨p, 0, none⟩), .string (strOf bs), .int .u64 (id : Int)] w fun e w' => ∃ i, e = .returned (.int .i64 i) ∧ FindRes (ksOf bs) id Q i ∧ Holds w' (RbL p A c first Q R) := by
  have HW : Hid (Holds w (_ :: _)) := hh
  have HBS := Lib.hid hbs
  clear hh hbs
  have hs := strSize bs
  go_enter Try.func66, Try.ntmps66
  go_wp2_with (first
    | (refine wpList_runs HW.out rfl (runs_ld1 0 rfl rfl rfl rfl (by kernel_rfl)) ?_; simp only [put_rules]))
  go_loopw [14] (fun v wr => ∃ i : Nat, i ≤ Q.length ∧ v = .int .i64 i ∧ Hid (∀ x ∈ Q.take i, isK (ksOf bs) id x = false) ∧ Holds wr (RbL p A c first Q R)) (fun v _ => Q.length - (intOf v).toNat)
  case atStart => exact ⟨0, by omega, rfl, fun _ h => by simp at h, HW.out⟩
  case round =>
    obtain ⟨i, hi, rfl, hf, hq⟩ := hrel
    clear HW
    have HW : Hid (Holds _ (_ :: _)) := hq
    clear hq
    by_cases hlt : i < Q.length
    · obtain ⟨r, hr⟩ : ∃ r, Q[i]? = some r := ⟨_, List.getElem?_eq_getElem hlt⟩
      obtain ⟨A', c', he, hc, hc2, hg⟩ := HW.out.arr_form 1 rfl
      cases he
      obtain ⟨g, rfl⟩ := hg (fun e => by rw [e] at hlt; simp at hlt)
      have HR := Lib.hid hr
      have hi1 : i ≤ 1000 := by omega
      have HSN : Hid (Q.take (i + 1) = Q.take i ++ [r]) := by
        unfold Hid
        rw [List.take_succ_eq_append_getElem hlt]
        rw [List.getElem?_eq_getElem hlt] at hr
        cases hr; rfl
      clear hr hg
      go_wp2
      go_loopw [19] (fun v wr => ∃ k : Nat, k ≤ bs.length ∧ v = .int .i64 k ∧ Hid (r.id = id → ∀ b ∈ bs.take k, (r.kind == (b.toNat : Int) - 48) = false) ∧ Holds wr (RbL p (some ⟨g, 0, none⟩) c first Q R)) (fun v _ => bs.length - (intOf v).toNat)
      case atStart => exact ⟨0, by omega, rfl, fun _ _ h => by simp at h, HW.out⟩
      case round =>
        obtain ⟨k, hk, rfl, hf2, hq⟩ := hrel
        clear HW
        have HW : Hid (Holds _ (_ :: _)) := hq
        clear hq
        by_cases hkl : k < bs.length
        · obtain ⟨b, hb⟩ : ∃ b, bs[k]? = some b := ⟨_, List.getElem?_eq_getElem hkl⟩
          have hd : 48 ≤ b.toNat ∧ b.toNat ≤ 57 := HBS.out b (List.mem_of_getElem? hb)
          have HB := Lib.hid hb
          have HSB : Hid (bs.take (k + 1) = bs.take k ++ [b]) := by
            unfold Hid
            rw [List.take_succ_eq_append_getElem hkl]
            rw [List.getElem?_eq_getElem hkl] at hb
            cases hb; rfl
          obtain ⟨m, hm⟩ : ∃ m : Nat, b.toNat = m + 48 := ⟨b.toNat - 48, by omega⟩
          have HM := Lib.hid hm
          have hw1 : IntKind.u8.wrap ((b.toNat : Int) - 48) = (m : Int) := by simp [IntKind.wrap, IntKind.signed, IntKind.bits]; omega
          have hw2 : IntKind.i64.wrap (m : Int) = (m : Int) := by simp [IntKind.wrap, IntKind.signed, IntKind.bits]; omega
          have hm9 : m ≤ 9 := by omega
          clear hb hm hd
          go_wp2
          by_cases hid : r.id = id
          · have hid1 : ((r.id : Int) = (id : Int)) := by rw [hid]
            by_cases hkd : r.kind = (m : Int)
            · have hkd1 : (r.kind == (m : Int)) = true := by rw [hkd]; simp
              refine wp_region_quietC (fun v => Holds v _) (by kernel_rfl) (by kernel_rfl) (HW.out.drewN 1) ?_
              repeat (first
                | go_big_quiet_skip
                | (go_big_quiet_want
                   first
                   | (refine quiet_runs (runs_ldrowF 1 rfl rfl rfl HR.out (f := 1) rfl rfl (by kernel_rfl)) ?_)
                   | (refine quiet_runs (runs_ldrowF 1 rfl rfl rfl HR.out (f := 0) rfl rfl (by kernel_rfl)) ?_)
                   | (refine quiet_runs (runs_strIdx rfl rfl rfl HB.out Try.underlying9) ?_)
                   | (refine quiet_runs (runs_ld1 0 rfl rfl rfl rfl (by kernel_rfl)) ?_)
                   | (refine quietV ?_ (fun v hv => ?_) ?_
                      rotate_left
                      · clear hv; go_simp <;> (try with_reducible rfl))
                   (try simp only [put_rules])
                   go_big_quiet_on))
              refine wpQuiet_nil (fun w' hw' => ?_)
              clear HW; have HW := Lib.hid hw'; clear hw'
              go_wp2
              go_ret
              exact ⟨i, rfl, .inl ⟨i, r, rfl, HR.out, rfind_at HR.out (by simp [isK, hid, ksOf]; exact ⟨b, List.mem_of_getElem? HB.out, by rw [hkd, HM.out]; omega⟩) hf.out⟩, HW.out⟩
            · have hkd1 : (r.kind == (m : Int)) = false := beq_eq_false_iff_ne.2 hkd
              refine wp_region_quietC (fun v => Holds v _) (by kernel_rfl) (by kernel_rfl) (HW.out.drewN 1) ?_
              repeat (first
                | go_big_quiet_skip
                | (go_big_quiet_want
                   first
                   | (refine quiet_runs (runs_ldrowF 1 rfl rfl rfl HR.out (f := 1) rfl rfl (by kernel_rfl)) ?_)
                   | (refine quiet_runs (runs_ldrowF 1 rfl rfl rfl HR.out (f := 0) rfl rfl (by kernel_rfl)) ?_)
                   | (refine quiet_runs (runs_strIdx rfl rfl rfl HB.out Try.underlying9) ?_)
                   | (refine quiet_runs (runs_ld1 0 rfl rfl rfl rfl (by kernel_rfl)) ?_)
                   | (refine quietV ?_ (fun v hv => ?_) ?_
                      rotate_left
                      · clear hv; go_simp <;> (try with_reducible rfl))
                   (try simp only [put_rules])
                   go_big_quiet_on))
              refine wpQuiet_nil (fun w' hw' => ?_)
              clear HW; have HW := Lib.hid hw'; clear hw'
              go_wp2
              go_roundw
              case rel =>
                refine ⟨k + 1, by omega, by go_num, fun hh x hx => ?_, HW.out⟩
                rw [HSB.out] at hx
                rcases List.mem_append.1 hx with hx | hx
                · exact hf2.out hh x hx
                · rw [List.mem_singleton.1 hx, HM.out]; simpa using hkd
              case measure => simp [intOf]; omega
          · have hid1 : ((r.id : Int) == (id : Int)) = false := beq_eq_false_iff_ne.2 (by omega)
            refine wp_region_quietC (fun v => Holds v _) (by kernel_rfl) (by kernel_rfl) (HW.out.drewN 1) ?_
            repeat (first
              | go_big_quiet_skip
              | (go_big_quiet_want
                 first
                 | (refine quiet_runs (runs_ldrowF 1 rfl rfl rfl HR.out (f := 1) rfl rfl (by kernel_rfl)) ?_)
                 | (refine quiet_runs (runs_ldrowF 1 rfl rfl rfl HR.out (f := 0) rfl rfl (by kernel_rfl)) ?_)
                 | (refine quiet_runs (runs_strIdx rfl rfl rfl HB.out Try.underlying9) ?_)
                 | (refine quiet_runs (runs_ld1 0 rfl rfl rfl rfl (by kernel_rfl)) ?_)
                 | (refine quietV ?_ (fun v hv => ?_) ?_
                    rotate_left
                    · clear hv; go_simp <;> (try with_reducible rfl))
                 (try simp only [put_rules])
                 go_big_quiet_on))
            refine wpQuiet_nil (fun w' hw' => ?_)
            clear HW; have HW := Lib.hid hw'; clear hw'
            go_wp2
            go_roundw
            case rel => exact ⟨k + 1, by omega, by go_num, fun hh => absurd hh hid, HW.out⟩
            case measure => simp [intOf]; omega
        · go_wp2
          go_roundw
          case rel =>
            refine ⟨i + 1, by omega, by go_num, fun x hx => ?_, HW.out⟩
            rw [HSN.out] at hx
            rcases List.mem_append.1 hx with hx | hx
            · exact hf.out x hx
            · rw [List.mem_singleton.1 hx]
              by_cases hid : r.id = id
              · have h1 := hf2.out hid
                rw [List.take_of_length_le (by omega)] at h1
                unfold isK
                rw [ksOf_no h1, Bool.and_false]
              · simp [isK, hid]
          case measure => simp [intOf]; omega
    · go_wp2
      go_ret
      exact ⟨-1, rfl, .inr ⟨rfl, rfind_no fun x hx => hf.out x (by rwa [List.take_of_length_le (by omega)])⟩, HW.out⟩
end Go.Proofs.Ytaieonajialenaa
