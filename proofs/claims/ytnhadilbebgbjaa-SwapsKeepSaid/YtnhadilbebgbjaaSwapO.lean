/-
  Swaps: the followers of a swap; the next one.
-/
import Derived.Test.YtnhadilbebgbjaaSwapN
namespace Go.Proofs.Ytnhadilbebgbjaa
set_option linter.unusedSimpArgs false
set_option linter.unusedVariables false
open Go Go.Ab
set_option maxRecDepth 100000
set_option maxHeartbeats 0
theorem followers_ok (l : List Swap) (i : Int) : Pure Try.prog 58 [.agg (eGraph l), .int .i64 i] [.fn (.func 66) [] [.pt (eGraph l) 0, .pt [.int .i64 i] 0]] := by
  refine pure_ruleC hT (T := tab) (N := 6) (rs := [.tmp 4]) Try.func58 rfl rfl rfl (by kernel_rfl) rfl ?_
  repeat' (first | with_reducible refine Sq.go ?_ | ((with_reducible refine Ev.mk ?_); conv => whnf) | with_reducible refine Dr.mk ⟨by kernel_rfl, by kernel_rfl⟩ ?_ | with_reducible refine obG ?_ | with_reducible refine Ob.mk ?_ ?_ | (with_reducible first | refine brT fun h => ?_ | refine brF fun h => ?_ | refine Br.mk (fun h => ?_) fun h => ?_) <;> (try simp only [bsl, beq_iff_eq, bne_iff_ne, bs2] at h) <;> (try contradiction) <;> try (exfalso; omega))
  exact ⟨.fn' True.intro ⟨.ptr' rfl (BecL.up _), .ptr' rfl ⟨.d, True.intro⟩, True.intro⟩, True.intro⟩
def folL (l : List Swap) (i : Nat) : List Int := occ (giveK l) (takeK l i) l.length
def nstep (d : Int → Option Int) (best k : Int) : Int := if (d k).isSome = true ∧ (best < 0 ∨ (d k).getD 0 < (d best).getD 0) then k else best
def nfold (d : Int → Option Int) (i : Int) (ks : List Int) : Int := ks.foldl (fun b k => if k = i then b else nstep d b k) (-1)
def nextS (l : List Swap) (d : Int → Option Int) (i : Nat) : Int := nfold d i (folL l i)
theorem nfold_snoc (d : Int → Option Int) (i : Int) (ks : List Int) (x : Int) : nfold d i (ks ++ [x]) = if x = i then nfold d i ks else nstep d (nfold d i ks) x := by
  simp [nfold, List.foldl_append]
def nblk (d : Int → Option Int) (b : Int) (y : Nat) (rec : Loop) : Mem := ⟨[], [some (.box 71 [.d (eDist d)]), some (.box 3 [.d (.int .i64 b)]), some (.loop y rec [(5, .ptr (.arg 0) 0 0 0), (7, .ptr (.arg 1) 0 0 0)])]⟩
theorem fol1_ok (rec : Loop) (y : Nat) (l : List Swap) (hl : l.length ≤ 1000) (d : Int → Option Int) (i : Nat) (hi : i < l.length)
    (hy : ∀ b x : Int, YieldVC Try.prog y [.d (.int .i64 x)] ⟨[], [some (.box 71 [.d (eDist d)]), some (.box 3 [.d (.int .i64 b)]), some (.loop y rec [(5, .ptr (.arg 0) 0 0 0), (7, .ptr (.arg 1) 0 0 0)])]⟩
      (Ret (fun b' : Int => ([.d (.bool true)], ⟨[], [some (.box 71 [.d (eDist d)]), some (.box 3 [.d (.int .i64 b')]), some (.loop y rec [(5, .ptr (.arg 0) 0 0 0), (7, .ptr (.arg 1) 0 0 0)])]⟩)) fun b' => b' = nstep d b x)) :
    CallVC Try.prog 66 [.fn (.yield y) [] [], .d (.pt (eGraph l) 0), .d (.pt [.int .i64 i] 0)] ⟨[], [some (.box 71 [.d (eDist d)]), some (.box 3 [.d (.int .i64 (-1))]), some (.loop y rec [(5, .ptr (.arg 0) 0 0 0), (7, .ptr (.arg 1) 0 0 0)])]⟩
      (Ret (fun b : Int => ([], ⟨[], [some (.box 71 [.d (eDist d)]), some (.box 3 [.d (.int .i64 b)]), some (.loop y rec [(5, .ptr (.arg 0) 0 0 0), (7, .ptr (.arg 1) 0 0 0)])]⟩)) fun b => b = nextS l d i) := by
  refine call_rule hT (T := tab) (N := 30) (rs := []) _ _ Try.func66 rfl rfl rfl (by kernel_rfl) rfl ?_
  repeat' (first | with_reducible refine Sq.go ?_ | ((with_reducible refine Ev.mk ?_); conv => whnf) | with_reducible refine Dr.mk ⟨by kernel_rfl, by kernel_rfl⟩ ?_ | with_reducible refine obG ?_ | with_reducible refine Ob.mk ?_ ?_ | (with_reducible first | refine brT fun h => ?_ | refine brF fun h => ?_ | refine Br.mk (fun h => ?_) fun h => ?_) <;> (try simp only [bsl, beq_iff_eq, bne_iff_ne, bs2] at h) <;> (try contradiction) <;> try (exfalso; omega))
  · exact fun h0 => hasO_len h0
  have hP := occ_len (giveK l) (takeK l i) l.length
  refine loop_rule hT (S := Nat) (fun r => ([(0, .fn (.yield y) [] []), (2, .d (.pt [.int .i64 i] 0)), (14, .d (eInts (folL l i))), (15, .d (.int .i64 (folL l i).length)), (16, .d (.int .i64 r))],
    ⟨[], [some (.box 71 [.d (eDist d)]), some (.box 3 [.d (.int .i64 (nfold d i ((folL l i).take r)))]), some (.loop y rec [(5, .ptr (.arg 0) 0 0 0), (7, .ptr (.arg 1) 0 0 0)])]⟩)) (fun r => r ≤ (folL l i).length) (fun r => (folL l i).length - r) 0 ?_ ?_ ?_
  · repeat' (first | exact True.intro | exact rfl | exact Nat.le_refl _ | refine And.intro ?_ ?_)
  · exact Nat.zero_le _
  · intro r hr
    unfold folL at hr ⊢
    obtain ⟨P, hPd⟩ : ∃ P, occ (giveK l) (takeK l i) l.length = P := ⟨_, rfl⟩
    rw [hPd] at hr hP ⊢
    by_cases hr2 : r < P.length
    · have hsn := nfold_snoc d i (P.take r) (P.getD r default)
      rw [← take_succ_at hr2] at hsn
      by_cases hx : P.getD r default = i
      · rw [if_pos hx] at hsn
        repeat' (first | with_reducible refine Sq.go ?_ | ((with_reducible refine Ev.mk ?_); conv => whnf) | with_reducible refine Dr.mk ⟨by kernel_rfl, by kernel_rfl⟩ ?_ | with_reducible refine obG ?_ | with_reducible refine Ob.mk ?_ ?_ | (with_reducible first | refine brT fun h => ?_ | refine brF fun h => ?_ | refine Br.mk (fun h => ?_) fun h => ?_) <;> (try simp only [bsl, beq_iff_eq, bne_iff_ne, bs2] at h) <;> (try contradiction) <;> try (exfalso; omega))
        refine ⟨r + 1, by show r + 1 ≤ P.length; omega, by show P.length - (r + 1) < P.length - r; omega, ?_⟩
        dsimp only
        rw [hsn]
        repeat' (first | exact True.intro | exact rfl | exact Nat.le_refl _ | refine And.intro ?_ ?_)
      · rw [if_neg hx] at hsn
        repeat' (first | with_reducible refine Sq.go ?_ | ((with_reducible refine Ev.mk ?_); conv => whnf) | with_reducible refine Dr.mk ⟨by kernel_rfl, by kernel_rfl⟩ ?_ | with_reducible refine obG ?_ | with_reducible refine Ob.mk ?_ ?_ | (with_reducible first | refine brT fun h => ?_ | refine brF fun h => ?_ | refine Br.mk (fun h => ?_) fun h => ?_) <;> (try simp only [bsl, beq_iff_eq, bne_iff_ne, bs2] at h) <;> (try contradiction) <;> try (exfalso; omega))
        refine (hy (nfold d i (P.take r)) (P.getD r default)).at [.arg 0, .arg 1, .arg 2] rfl ⟨rfl, rfl, rfl, True.intro⟩ (fun b hb => ⟨rfl, ?_⟩)
        subst hb
        repeat' (first | with_reducible refine Sq.go ?_ | ((with_reducible refine Ev.mk ?_); conv => whnf) | with_reducible refine Dr.mk ⟨by kernel_rfl, by kernel_rfl⟩ ?_ | with_reducible refine obG ?_ | with_reducible refine Ob.mk ?_ ?_ | (with_reducible first | refine brT fun h => ?_ | refine brF fun h => ?_ | refine Br.mk (fun h => ?_) fun h => ?_) <;> (try simp only [bsl, beq_iff_eq, bne_iff_ne, bs2] at h) <;> (try contradiction) <;> try (exfalso; omega))
        refine ⟨r + 1, by show r + 1 ≤ P.length; omega, by show P.length - (r + 1) < P.length - r; omega, ?_⟩
        dsimp only
        rw [hsn]
        repeat' (first | exact True.intro | exact rfl | exact Nat.le_refl _ | refine And.intro ?_ ?_)
    · rw [List.take_of_length_le (by omega)]
      repeat' (first | with_reducible refine Sq.go ?_ | ((with_reducible refine Ev.mk ?_); conv => whnf) | with_reducible refine Dr.mk ⟨by kernel_rfl, by kernel_rfl⟩ ?_ | with_reducible refine obG ?_ | with_reducible refine Ob.mk ?_ ?_ | (with_reducible first | refine brT fun h => ?_ | refine brF fun h => ?_ | refine Br.mk (fun h => ?_) fun h => ?_) <;> (try simp only [bsl, beq_iff_eq, bne_iff_ne, bs2] at h) <;> (try contradiction) <;> try (exfalso; omega))
      refine ⟨nfold d i P, by rw [nextS, folL, hPd], ?_, rfl⟩
      repeat' (first | exact True.intro | exact rfl | exact Nat.le_refl _ | refine And.intro ?_ ?_)
theorem yieldMono {P : Program} {b : Nat} {args : List AV} {m : Mem} {K K' : AV → Mem → Prop} (h : YieldVC P b args m K) (hk : ∀ A m', K A m' → K' A m') : YieldVC P b args m K' :=
  ⟨fun σ F w vals h1 h2 => by
    obtain ⟨fn, t, a, c, hy, hr⟩ := h.run σ F w vals h1 h2
    exact ⟨fn, t, a, c, hy, hr.mono fun _ _ ⟨v, A, m', σ', F', x, y, z⟩ => ⟨v, A, m', σ', F', x, hk _ _ y, z⟩⟩⟩
theorem after_none {r : Loop} (h1 : r.state = .ready) (h2 : r.pending = none) : after r none = r := by
  unfold after
  cases r
  simp at h1 h2
  subst h1; subst h2
  rfl
theorem hasD_zf (d : Int → Option Int) (x : Int) : hasD d [x] = false → D.int .i64 0 = D.int .i64 ((d x).getD 0) := fun h => by
  have h : (d x).isSome = false := h
  cases e : d x with
  | none => rfl
  | some v => rw [e] at h; cases h
theorem nstep_ge (d : Int → Option Int) (b k : Int) (h : -1 ≤ b) (hk : 0 ≤ k) : -1 ≤ nstep d b k := by
  unfold nstep
  split <;> omega
theorem next_ok (l : List Swap) (hl : l.length ≤ 1000) (d : Int → Option Int) (i : Nat) (hi : i < l.length) : Pure Try.prog 38 [.agg (eGraph l), .int .i64 i, eDist d] [.int .i64 (nextS l d i)] := by
  refine pure_rule hT (T := tab) (N := 35) (rs := [.tmp 6]) Try.func38 rfl rfl rfl (by kernel_rfl) rfl ?_
  repeat' (first | with_reducible refine Sq.go ?_ | ((with_reducible refine Ev.mk ?_); conv => whnf) | with_reducible refine Dr.mk ⟨by kernel_rfl, by kernel_rfl⟩ ?_ | with_reducible refine obG ?_ | with_reducible refine Ob.mk ?_ ?_ | (with_reducible first | refine brT fun h => ?_ | refine brF fun h => ?_ | refine Br.mk (fun h => ?_) fun h => ?_) <;> (try simp only [bsl, beq_iff_eq, bne_iff_ne, bs2] at h) <;> (try contradiction) <;> try (exfalso; omega))
  refine (followers_ok l i).call ?_
  repeat' (first | with_reducible refine Sq.go ?_ | ((with_reducible refine Ev.mk ?_); conv => whnf) | with_reducible refine Dr.mk ⟨by kernel_rfl, by kernel_rfl⟩ ?_ | with_reducible refine obG ?_ | with_reducible refine Ob.mk ?_ ?_ | (with_reducible first | refine brT fun h => ?_ | refine brF fun h => ?_ | refine Br.mk (fun h => ?_) fun h => ?_) <;> (try simp only [bsl, beq_iff_eq, bne_iff_ne, bs2] at h) <;> (try contradiction) <;> try (exfalso; omega))
  refine Awp.range (caps := up [.pt (eGraph l) 0, .pt [.int .i64 i] 0]) [(5, .ptr (.loc 1) 0 0 0), (7, .ptr (.loc 2) 0 0 0)] (.inr ⟨_, rfl, rfl⟩) (nl := 3) (na := 0) ⟨⟨rfl, rfl⟩, ⟨rfl, rfl⟩, True.intro⟩ ?_
  intro y r h1 h2 h3 h4 h5 h6
  refine (fol1_ok r y l hl d i hi ?_).at [.loc 1, .loc 2, .loc 3] rfl ⟨rfl, rfl, rfl, True.intro⟩ (fun s hs => ⟨rfl, ?_⟩)
  · intro b x
    refine yieldMono (yield_rule (N := 35) (ps := [14]) (args := [.d (.int .i64 x)])
      (bs := [some (.box 71 [.d (eDist d)]), some (.box 3 [.d (.int .i64 b)])]) (env0 := [(5, .ptr (.arg 0) 0 0 0), (7, .ptr (.arg 1) 0 0 0)])
      (fun b' : Int => [some (.box 71 [.d (eDist d)]), some (.box 3 [.d (.int .i64 b')])]) (fun _ => none) (fun b' => b' = nstep d b x) h1 h3 h4 h5 h6 rfl (by simp) ?_ rfl rfl ?_) ?_
    · repeat' (first | exact True.intro | exact rfl | exact Nat.le_refl _ | refine And.intro ?_ ?_)
    · refine Awp.of_vc hT ?_
      repeat' (first | with_reducible refine Sq.go ?_ | ((with_reducible refine Ev.mk ?_); conv => whnf) | with_reducible refine Dr.mk ⟨by kernel_rfl, by kernel_rfl⟩ ?_ | with_reducible refine obG ?_ | with_reducible refine Ob.mk ?_ ?_ | (with_reducible first | refine brT fun h => ?_ | refine brF fun h => ?_ | refine Br.mk (fun h => ?_) fun h => ?_) <;> (try simp only [bsl, beq_iff_eq, bne_iff_ne, bs2] at h) <;> (try contradiction) <;> try (exfalso; omega))
      refine Awp.of_vc hT ?_
      clear h5 h6
      cases hm : hasD d [x]
      · have hv : nstep d b x = b := if_neg (fun h => by have : (d x).isSome = false := hm; rw [this] at h; exact absurd h.1 (by decide))
        rw [hv]
        repeat' (first | with_reducible refine Sq.go ?_ | ((with_reducible refine Ev.mk ?_); conv => whnf) | with_reducible refine Dr.mk ⟨by kernel_rfl, by kernel_rfl⟩ ?_ | with_reducible refine obG ?_ | with_reducible refine Ob.mk ?_ ?_ | (with_reducible first | refine brT fun h => ?_ | refine brF fun h => ?_ | refine Br.mk (fun h => ?_) fun h => ?_) <;> (try simp only [bsl, beq_iff_eq, bne_iff_ne, bs2] at h) <;> (try contradiction) <;> try (exfalso; omega))
        all_goals first
          | exact hasD_zf d x
          | exact hasD_zf d b
          | exact absurd h.1 (nt hm)
          | (exact ⟨b, rfl, rfl, rfl, by repeat' (first | exact True.intro | exact rfl | exact Nat.le_refl _ | refine And.intro ?_ ?_)⟩)
          | trace_state
      · by_cases hb : b < 0
        · have hv : nstep d b x = x := if_pos ⟨hm, .inl hb⟩
          rw [hv]
          repeat' (first | with_reducible refine Sq.go ?_ | ((with_reducible refine Ev.mk ?_); conv => whnf) | with_reducible refine Dr.mk ⟨by kernel_rfl, by kernel_rfl⟩ ?_ | with_reducible refine obG ?_ | with_reducible refine Ob.mk ?_ ?_ | (with_reducible first | refine brT fun h => ?_ | refine brF fun h => ?_ | refine Br.mk (fun h => ?_) fun h => ?_) <;> (try simp only [bsl, beq_iff_eq, bne_iff_ne, bs2] at h) <;> (try contradiction) <;> try (exfalso; omega))
          all_goals first
            | exact hasD_zf d x
            | exact hasD_zf d b
            | exact h.elim (fun h => absurd h (nf hm)) (fun h => absurd h.1 (by omega))
            | (exact ⟨x, rfl, rfl, rfl, by repeat' (first | exact True.intro | exact rfl | exact Nat.le_refl _ | refine And.intro ?_ ?_)⟩)
            | trace_state
        · by_cases hc : (d x).getD 0 < (d b).getD 0
          · have hv : nstep d b x = x := if_pos ⟨hm, .inr hc⟩
            rw [hv]
            repeat' (first | with_reducible refine Sq.go ?_ | ((with_reducible refine Ev.mk ?_); conv => whnf) | with_reducible refine Dr.mk ⟨by kernel_rfl, by kernel_rfl⟩ ?_ | with_reducible refine obG ?_ | with_reducible refine Ob.mk ?_ ?_ | (with_reducible first | refine brT fun h => ?_ | refine brF fun h => ?_ | refine Br.mk (fun h => ?_) fun h => ?_) <;> (try simp only [bsl, beq_iff_eq, bne_iff_ne, bs2] at h) <;> (try contradiction) <;> try (exfalso; omega))
            all_goals first
              | exact hasD_zf d x
              | exact fun _ => hasD_zf d b
              | exact hasD_zf d b
              | exact h.elim (fun h => absurd h (nf hm)) (fun h => absurd (show (d b).getD 0 ≤ (d x).getD 0 from h.2) (by omega))
              | (exact ⟨x, rfl, rfl, rfl, by repeat' (first | exact True.intro | exact rfl | exact Nat.le_refl _ | refine And.intro ?_ ?_)⟩)
              | trace_state
          · have hv : nstep d b x = b := if_neg (fun h => by rcases h.2 with h | h <;> contradiction)
            rw [hv]
            repeat' (first | with_reducible refine Sq.go ?_ | ((with_reducible refine Ev.mk ?_); conv => whnf) | with_reducible refine Dr.mk ⟨by kernel_rfl, by kernel_rfl⟩ ?_ | with_reducible refine obG ?_ | with_reducible refine Ob.mk ?_ ?_ | (with_reducible first | refine brT fun h => ?_ | refine brF fun h => ?_ | refine Br.mk (fun h => ?_) fun h => ?_) <;> (try simp only [bsl, beq_iff_eq, bne_iff_ne, bs2] at h) <;> (try contradiction) <;> try (exfalso; omega))
            all_goals first
              | exact hasD_zf d x
              | exact hasD_zf d b
              | exact fun _ => hasD_zf d b
              | exact h.2.elim (fun h => absurd h hb) (fun h => absurd (show (d x).getD 0 < (d b).getD 0 from h) hc)
              | (exact ⟨b, rfl, rfl, rfl, by repeat' (first | exact True.intro | exact rfl | exact Nat.le_refl _ | refine And.intro ?_ ?_)⟩)
              | trace_state
    · rintro A m' ⟨b', hJ, rfl, rfl⟩
      refine ⟨b', hJ, rfl, ?_⟩
      show (⟨[], [some _, some _, some (.loop y (after r none) _)]⟩ : Mem) = _
      rw [after_none h1 h2]
  · subst hs
    refine ⟨none, by rw [after_none h1 h2]; rfl, ?_⟩
    show Sq _ _
    repeat' (first | with_reducible refine Sq.go ?_ | ((with_reducible refine Ev.mk ?_); conv => whnf) | with_reducible refine Dr.mk ⟨by kernel_rfl, by kernel_rfl⟩ ?_ | with_reducible refine obG ?_ | with_reducible refine Ob.mk ?_ ?_ | (with_reducible first | refine brT fun h => ?_ | refine brF fun h => ?_ | refine Br.mk (fun h => ?_) fun h => ?_) <;> (try simp only [bsl, beq_iff_eq, bne_iff_ne, bs2] at h) <;> (try contradiction) <;> try (exfalso; omega))
    exact ⟨rfl, True.intro⟩
end Go.Proofs.Ytnhadilbebgbjaa
