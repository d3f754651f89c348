/- The reference's bytes of a record: text, EditBytes. -/
import Derived.Test.YtaieonajialenaaRecR
namespace Go.Proofs.Ytaieonajialenaa
open Go.RowKit HP

section
variable {P : Program} {ops : Array Oper} {rest : List Oper} {o : Oper} {a : Act} {w : World} {Q : Exit → Act → World → Prop} {L : List HP}
theorem wpList_s2b (h : Holds w L) (hgd : o.guard = none) {ty t e : TypeId} {x : Operand} (ho : o.op = .convert ty t x) (hs : P.underlying ty = some .string) (hd : P.underlying t = some (.slice e)) (he : P.underlying e = some (.int .u8)) {xs : List UInt8} (hx : a.eval x = .string (strOf xs))
    (hn : ∀ g c w', xs.length ≤ c → Holds w' (rb (some ⟨g, 0, none⟩) xs :: L) → wpList P ops Q rest (a.put o.dst (.slice (some ⟨g, 0, none⟩) xs.length c)) w') : wpList P ops Q (o :: rest) a w :=
  wpList_plain hgd fun _ hK => wp_s2b h ho hs hd he hx fun g c w' h1 h2 => hK _ _ (hn g c w' h1 h2)
/-- bytes that stand in a block of segments -/
theorem Ent.sblk {i : Nat} {g : Nat} {T : TypeId} {S a' b' : List Sg} {off n : Nat} {xs : List UInt8} (hi : L[i]? = some (HP.sblk g T S)) (hc : cutSg S off n = some (a', [.b n xs], b')) : Ent L fun w => RD w (some ⟨g, off, none⟩) xs := fun w hw => by
  have hr := hw.sblk_range i hi hc
  refine ⟨g, fun _ => ⟨off, rfl, fun j hj => ?_⟩⟩
  exact hr j _ (by show (bcs xs)[j]? = _; rw [bcs_get]; simp [List.getD, hj])
end
section
variable {w : World} {R : List HP} (hh : Holds w R)
include hh
set_option maxRecDepth 100000 in
set_option maxHeartbeats 2000000 in
theorem rtext_okR (s : List UInt8) (hs : s.length ≤ 65535) : Calls Try.prog 77 #[.string (strOf s)] w fun e w' => ∃ v, e = .returned v ∧ Holds w' (own v (beL s.length 2 ++ s) :: R) := by
  have HW := Lib.hid hh
  have ns := strSize s
  have hw1 : IntKind.u64.wrap (s.length : Int) = s.length := wrapU (by omega)
  have HS := Lib.hid hs
  clear hh hs
  go_enter Try.func77, Try.ntmps77
  go_wp2_with (first
    | go_skip
    | (go_at_call 74; have hc := rnumb_at2 s.length 2 2 rfl (by omega) _ _ HW.out; with_reducible refine hc.mono ?_; clear hc
       rintro e w2 ⟨v, rfl, hw'⟩
       obtain ⟨A1, n1, c1, rfl, hn1, hc1, -⟩ := hw'.own_form
       clear HW; have HW := Lib.hid hw'; clear hw'; (try simp only [hps_rules] at HW))
    | (refine wpList_s2b HW.out rfl rfl Try.underlying9 Try.underlying51 Try.underlying5 rfl (fun g c w' hgc hw' => ?_)
       clear HW; have HW := Lib.hid hw'; clear hw'; (try simp only [hps_rules] at HW); (try simp only [put_rules]))
    | (refine wpList_parts HW.out rfl rfl Try.underlying87 (z := .slice none 0 0) (by kernel_rfl) [⟨A1, n1, c1, beL s.length 2⟩, ⟨some ⟨g, 0, none⟩, s.length, c, s⟩] rfl rfl (by decide) (by decide) (fun g2 w' hw' => ?_)
       clear HW; have HW := Lib.hid hw'; clear hw'; (try simp only [hps_rules] at HW); (try simp only [put_rules]))
    | (go_at_call 73; have hc := join_ok (some ⟨g2, 0, none⟩) 2 2 [⟨A1, n1, c1, beL s.length 2⟩, ⟨some ⟨g, 0, none⟩, s.length, c, s⟩] _ _ HW.out (Ent.parts rfl (Ent.oks (Ent.own.cons _) hn1 hc1 (Ent.oks Ent.rb rfl hgc Ent.oks_nil))) rfl (by omega) (by have := HS.out; simp [bsAll]; omega); with_reducible refine hc.mono ?_; clear hc
       rintro e w2 ⟨v, rfl, hw'⟩
       clear HW; have HW := Lib.hid hw'; clear hw'; (try simp only [hps_rules] at HW)))
  go_ret
  refine ⟨_, rfl, ?_⟩
  have := HW.out.drop 1 rfl |>.drop 1 rfl |>.drop 1 rfl
  simpa [bsAll] using this
end
end Go.Proofs.Ytaieonajialenaa
