/-
  Swaps: the distances, by the program.
-/
import Derived.Test.YtnhadilbebgbjaaSwapM
import Derived.Test.YtnhadilbebgbjaaEngAM
namespace Go.Proofs.Ytnhadilbebgbjaa
set_option linter.unusedSimpArgs false
set_option linter.unusedVariables false
open Go Go.Ab
set_option maxRecDepth 100000
set_option maxHeartbeats 0
def hasD (d : Int → Option Int) : List Int → Bool := fun key => (d (key.headD 0)).isSome
def valD (d : Int → Option Int) : List Int → AV := fun key => .d (.int .i64 ((d (key.headD 0)).getD 0))
def eDist (d : Int → Option Int) : D := .mapd (.one .i64) (hasD d) fun key => .int .i64 ((d (key.headD 0)).getD 0)
def rowI (xs : List Int) : Nat → List AV := fun i => [.d (.int .i64 (xs.getD i default))]
def Qr (l : List Swap) (to : Nat) (j : Nat) : List Int := (iter l j (bfs0 to)).q.drop j
theorem rowI_join (xs : List Int) (x : Int) {n : Nat} (hn : n = xs.length) (i : Nat) (hi : i < n + 1) : joinF n (rowI xs) (rowFn [[.d (.int .i64 x)]]) i = rowI (xs ++ [x]) i := by
  subst hn
  exact join_snoc (fun n => [D.int .i64 n]) xs x _ rfl i (by rw [len_snoc]; exact hi)
theorem rowI_drop (pre q : List Int) {n : Nat} (hn : n = pre.length) (i : Nat) : rowI (pre ++ q) (n + i) = rowI q i := by
  subst hn
  unfold rowI
  rw [getD_append_right (by omega), Nat.add_sub_cancel_left]
theorem mapD {d : Int → Option Int} {x v : Int} (key : List Int) (hf : (Ksh.one .i64).fits key) :
    (decide (key = [x]) || hasD d key) = hasD (fun y => if y = x then some v else d y) key ∧ (bif decide (key = [x]) then AV.d (.int .i64 v) else valD d key) = valD (fun y => if y = x then some v else d y) key := by
  match key, hf with
  | [a], _ =>
    simp only [hasD, valD, List.headD_cons, List.cons.injEq, and_true]
    by_cases e : a = x <;> simp [e]
theorem hasO_len {p : Nat → List Int} {k : Nat} {key : List Int} (h : hasO p k key = false) : (occ p key k).length = 0 := by
  cases e : occ p key k with
  | nil => rfl
  | cons x r => rw [hasO_iff.2 (by rw [e]; simp)] at h; cases h
theorem visit1_len (dk : Int) (s : BS) (i : Int) : s.q.length ≤ (visit1 dk s i).q.length := by
  unfold visit1
  split
  · simp
  · exact Nat.le_refl _
theorem visitL_len (dk : Int) : ∀ (is : List Int) (s : BS), s.q.length ≤ (visitL dk is s).q.length
  | [], s => Nat.le_refl _
  | x :: r, s => Nat.le_trans (visit1_len dk s x) (visitL_len dk r _)
structure DS where
  j : Nat
  g : Nat
  pre : List Int
theorem distances_ok (l : List Swap) (hl : l.length ≤ 1000) (to : Nat) (hto : to < l.length) : Pure Try.prog 37 [.agg (eGraph l), .int .i64 to] [eDist (bfs l to).d] := by
  refine pure_ruleC hT (T := tab) (N := 59) (rs := [.tmp 4]) Try.func37 rfl rfl rfl (by kernel_rfl) rfl ?_
  repeat' (first | with_reducible refine Sq.go ?_ | ((with_reducible refine Ev.mk ?_); conv => whnf) | with_reducible refine Dr.mk ⟨by kernel_rfl, by kernel_rfl⟩ ?_ | with_reducible refine obG ?_ | with_reducible refine Ob.mk ?_ ?_ | (with_reducible first | refine brT fun h => ?_ | refine brF fun h => ?_ | refine Br.mk (fun h => ?_) fun h => ?_) <;> (try simp only [bsl, beq_iff_eq, bne_iff_ne, bs2] at h) <;> (try contradiction) <;> try (exfalso; omega))
  refine loop_rule hT (S := DS) (fun s => ([(2, .ptr (.loc 0) 0 0 0), (5, .mp (.loc 1)), (6, .osl (.loc 2) s.g s.pre.length (Qr l to s.j).length)],
    ⟨[some (.box 69 (up (eGraph l))), some (.map (.one .i64) (hasD (iter l s.j (bfs0 to)).d) (valD (iter l s.j (bfs0 to)).d)), some (.vec 3 1 s.g (s.pre.length + (Qr l to s.j).length) (rowI (s.pre ++ Qr l to s.j)))], []⟩))
    (fun s => s.j ≤ (iter l s.j (bfs0 to)).q.length) (fun s => l.length - s.j) ⟨0, 0, []⟩ ?_ ?_ ?_
  · repeat' (first | exact True.intro | exact rfl | exact Nat.le_refl _ | refine And.intro ?_ ?_)
    · intro key hf
      obtain ⟨h1, h2⟩ := mapD (d := fun _ => none) (x := to) (v := 0) key hf
      refine ⟨?_, fun _ => ⟨?_, rfl⟩⟩
      · exact h1
      · refine Eq.trans ?_ h2
        show (bif decide (key = [(to : Int)]) then _ else _) = _
        cases decide (key = [(to : Int)]) <;> rfl
    · intro i hi
      have hi : i < 1 := hi
      obtain rfl : i = 0 := by omega
      exact ⟨rfl, rfl⟩
  · exact Nat.zero_le _
  · rintro ⟨j, g, pre⟩ hj
    dsimp only at hj ⊢
    have hB := BI.iter hto j
    have hnx : iter l (j + 1) (bfs0 to) = rnd l j (iter l j (bfs0 to)) := rfl
    obtain ⟨s, hs⟩ : ∃ s, iter l j (bfs0 to) = s := ⟨_, rfl⟩
    have hQ : Qr l to j = s.q.drop j := by rw [Qr, hs]
    rw [hs] at hB hj hnx
    have hlen := hB.len
    rw [hs, hQ]
    by_cases hj2 : j < s.q.length
    · obtain ⟨ik, hik, hx⟩ := hB.rg _ (getD_mem hj2)
      obtain ⟨dk, hdk⟩ := Option.isSome_iff_exists.1 ((hB.qd _).1 (getD_mem hj2))
      rw [hx] at hdk
      have hdr := drop_at hj2
      rw [hx] at hdr
      rw [rnd, if_pos hj2, hx, hdk, Option.getD_some] at hnx
      have hbd := hB.bd _ _ hdk
      have hql : (s.q.drop j).length = (s.q.drop (j + 1)).length + 1 := by rw [hdr]; rfl
      have hq1 : (pre ++ s.q.drop j).getD (oadd pre.length (Int.toNat 0)) default = (ik : Int) := by
        rw [oadd_eq, show Int.toNat 0 = 0 from rfl, Nat.add_zero, getD_append_right (Nat.le_refl _), hdr, Nat.sub_self]
        rfl
      obtain ⟨qn, hqn⟩ : ∃ qn, (s.q.drop (j + 1)).length = qn := ⟨_, rfl⟩
      rw [hql, hqn]
      repeat' (first | with_reducible refine Sq.go ?_ | ((with_reducible refine Ev.mk ?_); conv => whnf) | with_reducible refine Dr.mk ⟨by kernel_rfl, by kernel_rfl⟩ ?_ | with_reducible refine obG ?_ | with_reducible refine Ob.mk ?_ ?_ | (with_reducible first | refine brT fun h => ?_ | refine brF fun h => ?_ | refine Br.mk (fun h => ?_) fun h => ?_) <;> (try simp only [bsl, beq_iff_eq, bne_iff_ne, bs2] at h) <;> (try contradiction) <;> try (exfalso; omega))
      · rw [hq1]
        intro h0
        exact hasO_len h0
      simp (config := { beta := false, eta := false, iota := false, proj := false, zeta := false, decide := false }) only [hq1]
      have hP := occ_len (takeK l) (giveK l (ik : Int).toNat) l.length
      obtain ⟨P, hPd⟩ : ∃ P, occ (takeK l) (giveK l (ik : Int).toNat) l.length = P := ⟨_, rfl⟩
      have hPin := preds_in l ik l.length (Nat.le_refl _)
      unfold preds at hPin hnx
      rw [hPd] at hP hPin hnx
      refine loop_rule hT (S := DS) (fun z => ([(2, .ptr (.loc 0) 0 0 0), (5, .mp (.loc 1)), (6, .osl (.loc 2) z.g z.pre.length ((visitL dk (P.take z.j) s).q.drop (j + 1)).length), (7, .d (.int .i64 ik)), (33, .d (eInts P)), (34, .d (.int .i64 P.length)), (35, .d (.int .i64 z.j))],
        ⟨[some (.box 69 (up (eGraph l))), some (.map (.one .i64) (hasD (visitL dk (P.take z.j) s).d) (valD (visitL dk (P.take z.j) s).d)), some (.vec 3 1 z.g (z.pre.length + ((visitL dk (P.take z.j) s).q.drop (j + 1)).length) (rowI (z.pre ++ (visitL dk (P.take z.j) s).q.drop (j + 1))))], []⟩))
        (fun z => z.j ≤ P.length) (fun z => P.length - z.j) ⟨0, g, pre ++ [(ik : Int)]⟩ ?_ ?_ ?_
      · have e0 : visitL dk (P.take 0) s = s := rfl
        dsimp only
        rw [e0, hqn]
        repeat' (first | exact True.intro | exact rfl | exact Nat.le_refl _ | refine And.intro ?_ ?_)
        all_goals first
          | (show AV.osl (.loc 2) g (pre.length + 1) (qn + 1 - 1) = AV.osl (.loc 2) g (pre ++ [(ik : Int)]).length qn
             rw [len_snoc, Nat.add_sub_cancel]
             done)
          | (rw [← hPd]; rfl)
          | (intro key hf; exact ⟨rfl, fun _ => ⟨rfl, rfl⟩⟩)
          | (rw [len_snoc]; omega)
          | (intro i hi
             refine ⟨?_, rfl⟩
             rw [hdr, show pre ++ (ik : Int) :: s.q.drop (j + 1) = pre ++ [(ik : Int)] ++ s.q.drop (j + 1) by simp])
          | trace_state
      · exact Nat.zero_le _
      · rintro ⟨r, g2, pre2⟩ hr
        dsimp only at hr ⊢
        obtain ⟨hV, hVk⟩ := BI.visitL (to := to) hbd.2 (P.take r) hB.up hdk fun x hx => hPin x (List.take_subset _ _ hx)
        have hge := visitL_len dk (P.take r) s
        by_cases hr2 : r < P.length
        · have hsn : visitL dk (P.take (r + 1)) s = visit1 dk (visitL dk (P.take r) s) (P.getD r default) := by rw [take_succ_at hr2, visitL_snoc]
          obtain ⟨ii, hii, hix, hit⟩ := hPin _ (getD_mem hr2)
          obtain ⟨v, hv⟩ : ∃ v, visitL dk (P.take r) s = v := ⟨_, rfl⟩
          rw [hv] at hV hVk hsn hge
          rw [hix] at hsn
          rw [hv]
          have hk1 : hasD v.d [(ik : Int)] = true := by show (v.d ik).isSome = true; rw [hVk]; rfl
          have hk2 : (v.d ([(ik : Int)].headD 0)).getD 0 = dk := by show (v.d ik).getD 0 = dk; rw [hVk]; rfl
          have hin : In .i64 (dk + 1) := in64.2 (by omega)
          cases hd : v.d ii with
          | some dd =>
            rw [visit1, if_neg (by rw [hd]; simp)] at hsn
            have hmt : hasD v.d [P.getD r default] = true := by rw [hix]; show (v.d ii).isSome = true; rw [hd]; rfl
            repeat' (first | with_reducible refine Sq.go ?_ | ((with_reducible refine Ev.mk ?_); conv => whnf) | with_reducible refine Dr.mk ⟨by kernel_rfl, by kernel_rfl⟩ ?_ | with_reducible refine obG ?_ | with_reducible refine Ob.mk ?_ ?_ | (with_reducible first | refine brT fun h => ?_ | refine brF fun h => ?_ | refine Br.mk (fun h => ?_) fun h => ?_) <;> (try simp only [bsl, beq_iff_eq, bne_iff_ne, bs2] at h) <;> (try contradiction) <;> try (exfalso; omega))
            all_goals first
              | (exfalso; rw [hmt] at h; cases h; done)
              | (intro h0; exfalso; rw [hmt] at h0; cases h0; done)
              | skip
            refine ⟨⟨r + 1, g2, pre2⟩, by show r + 1 ≤ P.length; omega, by show P.length - (r + 1) < P.length - r; omega, ?_⟩
            dsimp only
            rw [hsn]
            repeat' (first | exact True.intro | exact rfl | exact Nat.le_refl _ | refine And.intro ?_ ?_)
            all_goals first
              | (intro key hf; exact ⟨rfl, fun _ => ⟨rfl, rfl⟩⟩)
              | (intro i hi; exact ⟨rfl, rfl⟩)
              | trace_state
          | none =>
            rw [visit1, if_pos hd] at hsn
            have hmt : hasD v.d [P.getD r default] = false := by rw [hix]; show (v.d ii).isSome = false; rw [hd]; rfl
            have hqd : (v.q ++ [(ii : Int)]).drop (j + 1) = v.q.drop (j + 1) ++ [(ii : Int)] := List.drop_append_of_le_length (by omega)
            have hql2 : (v.q.drop (j + 1)).length ≤ 1000 := by rw [List.length_drop]; have := hV.len; omega
            have hzf : hasD v.d [P.getD r default] = false → D.int .i64 0 = D.int .i64 ((v.d (P.getD r default)).getD 0) := fun _ => by rw [hix, hd]; rfl
            cases pre2 with
            | nil =>
              repeat' (first | with_reducible refine Sq.go ?_ | ((with_reducible refine Ev.mk ?_); conv => whnf) | with_reducible refine Dr.mk ⟨by kernel_rfl, by kernel_rfl⟩ ?_ | with_reducible refine obG ?_ | with_reducible refine Ob.mk ?_ ?_ | (with_reducible first | refine brT fun h => ?_ | refine brF fun h => ?_ | refine Br.mk (fun h => ?_) fun h => ?_) <;> (try simp only [bsl, beq_iff_eq, bne_iff_ne, bs2] at h) <;> (try contradiction) <;> try (exfalso; omega))
              all_goals try (exfalso; rw [hmt] at h; cases h; done)
              · exact hzf
              refine ⟨⟨r + 1, g2 + 1, []⟩, by show r + 1 ≤ P.length; omega, by show P.length - (r + 1) < P.length - r; omega, ?_⟩
              dsimp only
              rw [hsn]
              dsimp only
              rw [hqd, len_snoc]
              repeat' (first | exact True.intro | exact rfl | exact Nat.le_refl _ | refine And.intro ?_ ?_)
              all_goals first
                | (intro key hf
                   obtain ⟨m1, m2⟩ := mapD (d := v.d) (x := (ii : Int)) (v := dk + 1) key hf
                   rw [← hix] at m1 m2
                   refine ⟨by rw [← hix]; exact m1, fun _ => ⟨?_, rfl⟩⟩
                   rw [← hix]
                   refine Eq.trans ?_ m2
                   show (bif decide (key = [P.getD r default]) then AV.d (.int .i64 ((v.d ik).getD 0 + 1)) else valD v.d key) = _
                   rw [hVk]
                   rfl)
                | (intro i hi
                   refine ⟨?_, rfl⟩
                   have hi : i < _ := hi
                   rw [← hix]
                   exact rowI_join (v.q.drop (j + 1)) _ rfl i (by simpa using hi)
                   done)
                | (simp only [List.length_nil, List.length_cons]; omega)
                | trace_state
            | cons p0 pr =>
              repeat' (first | with_reducible refine Sq.go ?_ | ((with_reducible refine Ev.mk ?_); conv => whnf) | with_reducible refine Dr.mk ⟨by kernel_rfl, by kernel_rfl⟩ ?_ | with_reducible refine obG ?_ | with_reducible refine Ob.mk ?_ ?_ | (with_reducible first | refine brT fun h => ?_ | refine brF fun h => ?_ | refine Br.mk (fun h => ?_) fun h => ?_) <;> (try simp only [bsl, beq_iff_eq, bne_iff_ne, bs2] at h) <;> (try contradiction) <;> try (exfalso; omega))
              all_goals try (exfalso; rw [hmt] at h; cases h; done)
              · exact hzf
              refine op_append_off hT rfl rfl rfl rfl rfl (by intro q hq; simp only [List.mem_cons, List.not_mem_nil, or_false] at hq; rcases hq with rfl | rfl <;> first | exact True.intro | rfl | exact Nat.le_refl _) (by decide) rfl (by show ((v.q.drop (j + 1)).length + 1) * 8 ≤ 140737488355328; omega) ?_ ?_
              · repeat' (first | with_reducible refine Sq.go ?_ | ((with_reducible refine Ev.mk ?_); conv => whnf) | with_reducible refine Dr.mk ⟨by kernel_rfl, by kernel_rfl⟩ ?_ | with_reducible refine obG ?_ | with_reducible refine Ob.mk ?_ ?_ | (with_reducible first | refine brT fun h => ?_ | refine brF fun h => ?_ | refine Br.mk (fun h => ?_) fun h => ?_) <;> (try simp only [bsl, beq_iff_eq, bne_iff_ne, bs2] at h) <;> (try contradiction) <;> try (exfalso; omega))
                refine ⟨⟨r + 1, g2 + 1, p0 :: pr⟩, by show r + 1 ≤ P.length; omega, by show P.length - (r + 1) < P.length - r; omega, ?_⟩
                dsimp only
                rw [hsn]
                dsimp only
                rw [hqd, len_snoc]
                repeat' (first | exact True.intro | exact rfl | exact Nat.le_refl _ | refine And.intro ?_ ?_)
                all_goals first
                  | (intro key hf
                     obtain ⟨m1, m2⟩ := mapD (d := v.d) (x := (ii : Int)) (v := dk + 1) key hf
                     rw [← hix] at m1 m2
                     refine ⟨by rw [← hix]; exact m1, fun _ => ⟨?_, rfl⟩⟩
                     rw [← hix]
                     refine Eq.trans ?_ m2
                     show (bif decide (key = [P.getD r default]) then AV.d (.int .i64 ((v.d ik).getD 0 + 1)) else valD v.d key) = _
                     rw [hVk]
                     rfl)
                  | (intro i hi
                     refine ⟨?_, rfl⟩
                     have hi : i < _ := hi
                     rw [← hix]
                     rw [← List.append_assoc]; exact rowI_join (p0 :: pr ++ v.q.drop (j + 1)) _ (by rw [List.length_append]) i (by simpa [Nat.add_assoc] using hi)
                     done)
                  | (simp only [List.length_nil, List.length_cons]; omega)
                  | trace_state
              · repeat' (first | with_reducible refine Sq.go ?_ | ((with_reducible refine Ev.mk ?_); conv => whnf) | with_reducible refine Dr.mk ⟨by kernel_rfl, by kernel_rfl⟩ ?_ | with_reducible refine obG ?_ | with_reducible refine Ob.mk ?_ ?_ | (with_reducible first | refine brT fun h => ?_ | refine brF fun h => ?_ | refine Br.mk (fun h => ?_) fun h => ?_) <;> (try simp only [bsl, beq_iff_eq, bne_iff_ne, bs2] at h) <;> (try contradiction) <;> try (exfalso; omega))
                refine ⟨⟨r + 1, g2 + 1, []⟩, by show r + 1 ≤ P.length; omega, by show P.length - (r + 1) < P.length - r; omega, ?_⟩
                dsimp only
                rw [hsn]
                dsimp only
                rw [hqd, len_snoc]
                repeat' (first | exact True.intro | exact rfl | exact Nat.le_refl _ | refine And.intro ?_ ?_)
                all_goals first
                  | (intro key hf
                     obtain ⟨m1, m2⟩ := mapD (d := v.d) (x := (ii : Int)) (v := dk + 1) key hf
                     rw [← hix] at m1 m2
                     refine ⟨by rw [← hix]; exact m1, fun _ => ⟨?_, rfl⟩⟩
                     rw [← hix]
                     refine Eq.trans ?_ m2
                     show (bif decide (key = [P.getD r default]) then AV.d (.int .i64 ((v.d ik).getD 0 + 1)) else valD v.d key) = _
                     rw [hVk]
                     rfl)
                  | (intro i hi
                     refine ⟨?_, rfl⟩
                     have hi : i < _ := hi
                     rw [← hix]
                     rw [show (fun i => rowI (p0 :: pr ++ v.q.drop (j + 1)) ((p0 :: pr).length + i)) = rowI (v.q.drop (j + 1)) from funext fun i => rowI_drop _ _ rfl i]; exact rowI_join (v.q.drop (j + 1)) _ rfl i (by simpa using hi)
                     done)
                  | (simp only [List.length_nil, List.length_cons]; omega)
                  | trace_state
        · rw [List.take_of_length_le (by omega)]
          repeat' (first | with_reducible refine Sq.go ?_ | ((with_reducible refine Ev.mk ?_); conv => whnf) | with_reducible refine Dr.mk ⟨by kernel_rfl, by kernel_rfl⟩ ?_ | with_reducible refine obG ?_ | with_reducible refine Ob.mk ?_ ?_ | (with_reducible first | refine brT fun h => ?_ | refine brF fun h => ?_ | refine Br.mk (fun h => ?_) fun h => ?_) <;> (try simp only [bsl, beq_iff_eq, bne_iff_ne, bs2] at h) <;> (try contradiction) <;> try (exfalso; omega))
          refine ⟨⟨j + 1, g2, pre2⟩, ?_, by show l.length - (j + 1) < l.length - j; omega, ?_⟩
          · show j + 1 ≤ (iter l (j + 1) (bfs0 to)).q.length
            rw [hnx]
            have := visitL_len dk P s
            omega
          · dsimp only
            rw [show Qr l to (j + 1) = (visitL dk P s).q.drop (j + 1) by rw [Qr, hnx], hnx]
            repeat' (first | exact True.intro | exact rfl | exact Nat.le_refl _ | refine And.intro ?_ ?_)
            all_goals first
              | (intro key hf; exact ⟨rfl, fun _ => ⟨rfl, rfl⟩⟩)
              | (intro i hi; exact ⟨rfl, rfl⟩)
              | trace_state
    · have hj3 : j = s.q.length := by omega
      have hnil : s.q.drop j = [] := drop_end (by omega)
      have hbe : bfs l to = s := by
        rw [← hs]
        exact iter_end (by rw [hs]; omega) _ (by omega)
      rw [hnil, hbe]
      repeat' (first | with_reducible refine Sq.go ?_ | ((with_reducible refine Ev.mk ?_); conv => whnf) | with_reducible refine Dr.mk ⟨by kernel_rfl, by kernel_rfl⟩ ?_ | with_reducible refine obG ?_ | with_reducible refine Ob.mk ?_ ?_ | (with_reducible first | refine brT fun h => ?_ | refine brF fun h => ?_ | refine Br.mk (fun h => ?_) fun h => ?_) <;> (try simp only [bsl, beq_iff_eq, bne_iff_ne, bs2] at h) <;> (try contradiction) <;> try (exfalso; omega))
      refine ⟨.mp rfl fun k hk => .d, True.intro⟩
end Go.Proofs.Ytnhadilbebgbjaa
