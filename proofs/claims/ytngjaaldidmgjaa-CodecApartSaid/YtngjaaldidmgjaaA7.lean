/- Contract of CodecApart's own function: whether bytes are unlike as far as both go. -/
import Derived.Test.YtngjaaldidmgjaaPx4
import Derived.Test.YtngjaaldidmgjaaTakes0
namespace Go.Proofs.Ytngjaaldidmgjaa.G
open Go.Shelf Go.RowKit Go.Proofs.YtngjaaldidmgjaaW.PrintWords Go.Proofs.YtngjaaldidmgjaaW.PrintLast Go.Proofs.YtngjaaldidmgjaaW.PrintMore
attribute [local go_sem] max2_int min2_int max_two min_two
set_option linter.unusedVariables false
set_option linter.unusedSimpArgs false

section
variable {P : Program} {ops : Array Oper} {Q : Exit → Act → World → Prop}
/-- A call through a variable that holds a function without captured variables, by its contract. -/
theorem goesT_ {oi : Oper} {N : Option Tmp} {a : Act} {w : World} {K : Act → World → Prop} {f : FuncId} {fn : Func} {t : Tmp} {xs : Array Operand} {ts : Array TypeId} (hf : P.funcs[f]? = some fn) (hname : (fn.name == "runtime.NumGoroutine") = false) (hb : fn.body.isSome = true) (args : Array Value)
    (hw : Region.wanted oi (yielded ops a.tmps) = true) (hN : oi.dst = N) (hop : oi.op = .call { callee := .value (.tmp t), args := xs, argTypes := ts }) (ht : a.eval (.tmp t) = .func (.func f) #[] #[]) (hargs : xs.map a.eval = args)
    (h : Calls P f args w fun e w' => ∃ v, e = .returned v ∧ K (a.put N v) w') : if Region.wanted oi (yielded ops a.tmps) = true then Oper.wp P oi a w K Q else K (a.put N undef) w := by
  refine call_ f args hw hN ?_ h
  have he := enters_ hf hname hb args w
  unfold execOp
  simp [hop, resolve, Deferred.ofValue, invoke, ht, hargs, he]
end
def alike (l m : List Int) : Bool := decide (l.take (min l.length m.length) = m.take (min l.length m.length))
def apart1.f (l m : List Int) : Option Bool := some (!alike l m)
theorem apart_quiet {e : Ending} {v : Value} {w w' : World} (h : e = .returned v ∧ Drawn0 w w') : e = .returned v ∧ ∃ m, w' = w.drewN m := by
  obtain ⟨he, ⟨⟨n, hn⟩⟩⟩ := h
  exact ⟨he, n, hn⟩

set_option maxHeartbeats 1000000 in
set_option maxRecDepth 100000 in
theorem apart1.calls (A0 : Option Addr) (c0 : Nat) (l0 : List Int) (A1 : Option Addr) (c1 : Nat) (l1 : List Int) (r : Bool) (w : World) (hr0 : Kd.C (Kd.int .u8) w A0 l0.length l0) (hc0 : l0.length ≤ c0) (hr1 : Kd.C (Kd.int .u8) w A1 l1.length l1) (hc1 : l1.length ≤ c1) (h : apart1.f l0 l1 = some r) :
    Calls Try.prog 21 #[.slice A0 l0.length c0, .slice A1 l1.length c1] w fun e w' => e = .returned (.bool r) ∧ Drawn0 w w' := by
  have hm0 := Kd.C_max hr0
  have hm1 := Kd.C_max hr1
  obtain ⟨n, hn⟩ : ∃ n, n = min l0.length l1.length := ⟨_, rfl⟩
  have e0 : (l0.take n).length = n := by rw [List.length_take]; omega
  have e1 : (l1.take n).length = n := by rw [List.length_take]; omega
  have hr : r = !(decide (l0.take n = l1.take n)) := by
    unfold apart1.f alike at h
    rw [← hn] at h
    exact (Option.some.inj h).symm
  obtain ⟨b, hb⟩ : ∃ b, b = decide (l0.take n = l1.take n) := ⟨_, rfl⟩
  rw [← hb] at hr
  obtain ⟨i0, hi0, _, hsz0, _⟩ := info_parts info_u8
  obtain ⟨hcut0, hA0, hC0⟩ := print_take_of (P := Try.prog) (Value.int .u8) 0 30 5 .i64 Try.underlying30 hi0 hsz0 A0 c0 l0 (n : Int) (by omega) (by omega) hc0
  obtain ⟨hcut1, hA1, hC1⟩ := print_take_of (P := Try.prog) (Value.int .u8) 0 30 5 .i64 Try.underlying30 hi0 hsz0 A1 c1 l1 (n : Int) (by omega) (by omega) hc1
  rw [Int.toNat_natCast] at hcut0 hA0 hC0 hcut1 hA1 hC1
  have HK0 := Kd.C_of_reads (h1 := fun _ => rfl) (hA0 _ (Kd.reads_of_C hr0))
  have HK1 := Kd.C_of_reads (h1 := fun _ => rfl) (hA1 _ (Kd.reads_of_C hr1))
  have HE := Aside0.mk (fun (m : Nat) => P.slices_Equal_byte_byte.calls (n + 1) A0 c0 (l0.take n) A1 c1 (l1.take n) b (w.drewN m) (Kd.C_drewN HK0 m) hC0 (Kd.C_drewN HK1 m) hC1 (by rw [beq_is (n + 1) _ _ (by omega) (by omega), hb]))
  rw [e0] at hcut0 hC0
  rw [e1] at hcut1 hC1
  rw [e0, e1] at HE
  have HN := Aside0.mk hn
  clear h hr0 hr1 hA0 hA1 HK0 HK1 hb e0 e1 hn hC0 hC1 hi0 hsz0
  subst hr
  by_cases hlt : l1.length < l0.length
  · obtain rfl : n = l1.length := by have := HN.out; omega
    clear HN
    go_enter Try.func21, Try.ntmps21
    go_wp2_with fail
    go_quiet ((go_at_call 22; refine Calls.quiet_of ((HE.out _).mono (fun e w' h => apart_quiet h))))
    go_wp2_with fail
    go_returns
    exact ⟨rfl, ⟨⟨_, rfl⟩⟩⟩
  · obtain rfl : n = l0.length := by have := HN.out; omega
    clear HN
    go_enter Try.func21, Try.ntmps21
    go_wp2_with fail
    go_quiet ((go_at_call 22; refine Calls.quiet_of ((HE.out _).mono (fun e w' h => apart_quiet h))))
    go_wp2_with fail
    go_returns
    exact ⟨rfl, ⟨⟨_, rfl⟩⟩⟩

end Go.Proofs.Ytngjaaldidmgjaa.G
