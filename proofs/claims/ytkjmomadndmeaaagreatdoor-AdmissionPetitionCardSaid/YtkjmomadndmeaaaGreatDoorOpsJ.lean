import Derived.Test.YtkjmomadndmeaaaGreatDoorOpsH
namespace Go.Ab
section
variable {P:Program} {T:Tab} {m:Mem} {env:Env} {K:AV→Mem→Prop} {o:Oper}
theorem addr0 (a:Addr):a.add 0=a:=by
 unfold Addr.add
 split <;> simp_all
theorem op_clip (hT:TabOk P T) {t:TypeId} {x h y:Operand} (hop:o.op=.slice t x none (some h) (some y)) {e:TypeId} {sz n:Nat} {f:Nat→List D} (he:elemOf T t=some (e,sz)) (hx:ev env x=.d (.sl sz n f)) {kh ky:IntKind} (hh:ev env h=.d (.int kh n)) (hy:ev env y=.d (.int ky n))
 (hK:K (.d (.slc sz n f)) m):OpVC P o env m K :=
 ⟨fun c h=>(by rw [hop] at h;cases h),fun a w F σ hev hm=>by
  obtain ⟨hu,hs,_⟩:=elemOf_ok hT he
  have hel:=elem_eq hu
  have hu':P.underlying t=some (.slice (P.elem t)):=by rw [hel];exact hu
  have hv:=ev_ok hev x
  rw [hx] at hv
  have hvh:=ev_ok hev h
  rw [hh] at hvh
  have hvh:=hvh.int
  have hvy:=ev_ok hev y
  rw [hy] at hvy
  have hvy:=hvy.int
  obtain ⟨X,hX⟩:∃ X,a.eval x=X:=⟨_,rfl⟩
  rw [hX] at hv
  cases hv with
  | d hv =>
    have hv0:=hv
    cases hv with
    | @sl _ _ _ B cap a0 g hc hA hl hcell hrd =>
      have hsl:sliced B 0 n n sz=.slice B n n:=by
       unfold sliced
       split
       ·rfl
       ·cases B with
        | none=>rfl
        | some b=>simp [addr0]
      refine ⟨_,.slice B n n,w,σ,F,_,_,?_,.inl rfl,hK,.d (.slc ?_),hm,Step.refl σ F w,SLe.refl σ⟩
      ·have hrun:(Instr.sliceAt t (a.eval x) none (some (a.eval h)) (some (a.eval y))).run P w=.ok (.slice B n n) w:=by
        rw [hX,hvh,hvy,run_sliceAt_slice _ _ _ _ _ _ hu',run_slice_hm _ _ _ _ _ hu' _ _ _ _ (by omega) (by omega) (by omega),hel,hs]
        show Result.ok (sliced B 0 (n:Int).toNat (n:Int).toNat sz) w=_
        rw [Int.toNat_natCast,hsl]
       simp [execOp,hop,hrun]
      ·exact .sl a0 g (Nat.le_refl _) hA hl hcell hrd⟩
end
end Go.Ab
