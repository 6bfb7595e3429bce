/-
  Swaps: newGraph, the walk.
-/
import Derived.Test.YtnhadilbebgbjaaSwapI
namespace Go.Proofs.Ytnhadilbebgbjaa
set_option linter.unusedSimpArgs false
set_option linter.unusedVariables false
open Go Go.Ab
set_option maxRecDepth 100000
set_option maxHeartbeats 0
theorem get_of_at {m : Mem} {r : Ref} {B : Blk} (h : m.at r = some (some B)) : m.get r = some B := by
  have key : ∀ (l : List (Option Blk)) (j : Nat), l[j]? = some (some B) → Ab.look l j = some B := by
    intro l
    induction l with
    | nil => intro j h; simp at h
    | cons b r ih =>
      intro j h
      cases j with
      | zero => simp at h; subst h; rfl
      | succ j => exact ih j (by simpa using h)
  cases r with
  | loc j => exact key _ j h
  | arg j => exact key _ j h
  | bad => cases h
structure GS where
  k : Nat
  own : List (Option Blk)
  vg : List Int → AV
  vt : List Int → AV
structure GJ (l : List Swap) (s : GS) : Prop where
  hk : s.k ≤ l.length
  ln : lenL s.own = 2 * s.k
  ok : OwnOk s.own
  g : Grp (gtag l) false s.own (giveK l) s.k s.vg
  t : Grp (gtag l) true s.own (takeK l) s.k s.vt
theorem newGraph_ok (l : List Swap) (hl : l.length ≤ 1000) : Pure Try.prog 36 [eSwaps l] [.agg (eGraph l)] := by
  refine pure_ruleC hT (T := tab) (N := 39) (rs := [.cell 2 69]) Try.func36 rfl rfl rfl (by kernel_rfl) rfl ?_
  repeat' (first | with_reducible refine Sq.go ?_ | ((with_reducible refine Ev.mk ?_); conv => whnf) | with_reducible refine Dr.mk ⟨by kernel_rfl, by kernel_rfl⟩ ?_ | with_reducible refine obG ?_ | with_reducible refine Ob.mk ?_ ?_ | (with_reducible first | refine brT fun h => ?_ | refine brF fun h => ?_ | refine Br.mk (fun h => ?_) fun h => ?_) <;> (try simp only [bsl, beq_iff_eq, bne_iff_ne, bs2] at h) <;> (try contradiction) <;> try (exfalso; omega))
  refine loop_rule hT (S := GS) (fun s => ([(2, .ptr (.loc 0) 0 0 0), (3, .ptr (.loc 3) 0 0 0), (10, .d (eSwaps l)), (11, .d (.int .i64 l.length)), (12, .d (.int .i64 s.k))],
    ⟨[some (.box 69 [.d .nils, .d .nilm, .d .nilm]), some (.map shB (hasO (giveK l) s.k) s.vg), some (.map shB (hasO (takeK l) s.k) s.vt), some (.box 69 [.d (eSwaps l), .mp (.loc 1), .mp (.loc 2)])], s.own⟩)) (GJ l) (fun s => l.length - s.k) ⟨0, [], fun _ => .junk, fun _ => .junk⟩ ?_ ?_ ?_
  · repeat' (first | exact True.intro | exact rfl | exact Nat.le_refl _ | refine And.intro ?_ ?_)
    all_goals
      intro key hf
      exact ⟨rfl, fun h => by cases h⟩
  · exact ⟨Nat.zero_le _, rfl, fun B hB => by simp at hB, ⟨fun key h => by simp [hasO, occ] at h⟩, ⟨fun key h => by simp [hasO, occ] at h⟩⟩
  · rintro ⟨k, own, vg, vt⟩ ⟨hk, hln, hok, hg, ht⟩
    dsimp only at hk hln hok hg ht ⊢
    by_cases hk2 : k < l.length
    · have hgl := occ_len (giveK l) (giveK l k) k
      have htl := occ_len (takeK l) (takeK l k) k
      by_cases h1 : hasO (giveK l) k (giveK l k) = true
      · obtain ⟨i, g, f, hv, ho, hf, hi⟩ := hg.row _ h1
        have hn : (occ (giveK l) (giveK l k) k).length = (occ (giveK l) (giveK l k) k).length := rfl
        have hkp : ∀ x, Kept (gtag l) false (giveK l k) own (snoc (putAt own i none) x) := kept_old hi
        have hl0 : lenL (putAt own i none) = 2 * k := by rw [len_less, hln]
        have hok0 := hok.less i
        have hg1 := put_grp (g := g) (f := f) hg hn (hkp _) hf (by rw [hl0, tag_even])
        have ht1 := ht.keep (hkp (rowB g (occ (giveK l) (giveK l k) k).length f k)) (by decide)
        have hl1 : lenL (snoc (putAt own i none) (rowB g (occ (giveK l) (giveK l k) k).length f k)) = 2 * k + 1 := by rw [len_more, hl0]
        have hok1 := own_more (g := g) (f := f) hok0 hn k hf
        by_cases h2 : hasO (takeK l) k (takeK l k) = true
        · obtain ⟨i2, g2, f2, hv2, ho2, hf2, hi2⟩ := ht1.row _ h2
          have hn2 : (occ (takeK l) (takeK l k) k).length = (occ (takeK l) (takeK l k) k).length := rfl
          have hkp2 : ∀ x, Kept (gtag l) true (takeK l k) (snoc (putAt own i none) (rowB g (occ (giveK l) (giveK l k) k).length f k)) (snoc (putAt (snoc (putAt own i none) (rowB g (occ (giveK l) (giveK l k) k).length f k)) i2 none) x) := kept_old hi2
          have hl2 : lenL (putAt (snoc (putAt own i none) (rowB g (occ (giveK l) (giveK l k) k).length f k)) i2 none) = 2 * k + 1 := by rw [len_less, hl1]
          have hok2 := hok1.less i2
          have ht2 := put_grp (g := g2) (f := f2) ht1 hn2 (hkp2 _) hf2 (by rw [hl2, tag_odd])
          have hg2 := hg1.keep (hkp2 (rowB g2 (occ (takeK l) (takeK l k) k).length f2 k)) (by decide)
          have hok3 := own_more (g := g2) (f := f2) hok2 hn2 k hf2
          repeat' (first | with_reducible refine Sq.go ?_ | ((with_reducible refine Ev.mk ?_); conv => whnf) | with_reducible refine Dr.mk ⟨by kernel_rfl, by kernel_rfl⟩ ?_ | with_reducible refine obG ?_ | with_reducible refine Ob.mk ?_ ?_ | (with_reducible first | refine brT fun h => ?_ | refine brF fun h => ?_ | refine Br.mk (fun h => ?_) fun h => ?_) <;> (try simp only [bsl, beq_iff_eq, bne_iff_ne, bs2] at h) <;> (try contradiction) <;> try (exfalso; omega))
          refine op_entryOld hT rfl rfl rfl rfl rfl h1 hv ho fun c => ?_
          repeat' (first | with_reducible refine Sq.go ?_ | ((with_reducible refine Ev.mk ?_); conv => whnf) | with_reducible refine Dr.mk ⟨by kernel_rfl, by kernel_rfl⟩ ?_ | with_reducible refine obG ?_ | with_reducible refine Ob.mk ?_ ?_ | (with_reducible first | refine brT fun h => ?_ | refine brF fun h => ?_ | refine Br.mk (fun h => ?_) fun h => ?_) <;> (try simp only [bsl, beq_iff_eq, bne_iff_ne, bs2] at h) <;> (try contradiction) <;> try (exfalso; omega))
          refine op_entryStore rfl rfl rfl rfl rfl rfl ?_
          repeat' (first | with_reducible refine Sq.go ?_ | ((with_reducible refine Ev.mk ?_); conv => whnf) | with_reducible refine Dr.mk ⟨by kernel_rfl, by kernel_rfl⟩ ?_ | with_reducible refine obG ?_ | with_reducible refine Ob.mk ?_ ?_ | (with_reducible first | refine brT fun h => ?_ | refine brF fun h => ?_ | refine Br.mk (fun h => ?_) fun h => ?_) <;> (try simp only [bsl, beq_iff_eq, bne_iff_ne, bs2] at h) <;> (try contradiction) <;> try (exfalso; omega))
          refine op_entryOld hT rfl rfl rfl rfl rfl h2 hv2 ho2 fun c2 => ?_
          repeat' (first | with_reducible refine Sq.go ?_ | ((with_reducible refine Ev.mk ?_); conv => whnf) | with_reducible refine Dr.mk ⟨by kernel_rfl, by kernel_rfl⟩ ?_ | with_reducible refine obG ?_ | with_reducible refine Ob.mk ?_ ?_ | (with_reducible first | refine brT fun h => ?_ | refine brF fun h => ?_ | refine Br.mk (fun h => ?_) fun h => ?_) <;> (try simp only [bsl, beq_iff_eq, bne_iff_ne, bs2] at h) <;> (try contradiction) <;> try (exfalso; omega))
          refine op_entryStore rfl rfl rfl rfl rfl rfl ?_
          repeat' (first | with_reducible refine Sq.go ?_ | ((with_reducible refine Ev.mk ?_); conv => whnf) | with_reducible refine Dr.mk ⟨by kernel_rfl, by kernel_rfl⟩ ?_ | with_reducible refine obG ?_ | with_reducible refine Ob.mk ?_ ?_ | (with_reducible first | refine brT fun h => ?_ | refine brF fun h => ?_ | refine Br.mk (fun h => ?_) fun h => ?_) <;> (try simp only [bsl, beq_iff_eq, bne_iff_ne, bs2] at h) <;> (try contradiction) <;> try (exfalso; omega))
          refine ⟨⟨k + 1, (snoc (putAt (snoc (putAt own i none) (rowB g (occ (giveK l) (giveK l k) k).length f k)) i2 none) (rowB g2 (occ (takeK l) (takeK l k) k).length f2 k)), valB vg (giveK l k) (lenL (putAt own i none)) g (occ (giveK l) (giveK l k) k).length, valB vt (takeK l k) (lenL (putAt (snoc (putAt own i none) (rowB g (occ (giveK l) (giveK l k) k).length f k)) i2 none)) g2 (occ (takeK l) (takeK l k) k).length⟩, ⟨by show k + 1 ≤ l.length; omega, by show lenL (snoc (putAt (snoc (putAt own i none) (rowB g (occ (giveK l) (giveK l k) k).length f k)) i2 none) (rowB g2 (occ (takeK l) (takeK l k) k).length f2 k)) = 2 * (k + 1); rw [len_more, hl2]; omega, hok3, hg2, ht2⟩, by show l.length - (k + 1) < l.length - k; omega, ?_⟩
          repeat' (first | exact True.intro | exact rfl | exact Nat.le_refl _ | refine And.intro ?_ ?_)
          · exact mapLe hg2 _
          · exact mapLe ht2 _
          · exact hok3.le _ _
        · have hno2 : occ (takeK l) (takeK l k) k = [] := by
            cases e : occ (takeK l) (takeK l k) k with
            | nil => rfl
            | cons => exact absurd (hasO_iff.2 (by rw [e]; simp)) h2
          replace h2 : hasO (takeK l) k (takeK l k) = false := by simpa using h2
          have hn2 : 0 = (occ (takeK l) (takeK l k) k).length := by rw [hno2]; rfl
          have hf2 : ∀ j, j < (occ (takeK l) (takeK l k) k).length → (fun _ => [] : Nat → List AV) j = [.d (.int .i64 ((occ (takeK l) (takeK l k) k).getD j default))] := fun j hj => by omega
          have hkp2 : ∀ x, Kept (gtag l) true (takeK l k) (snoc (putAt own i none) (rowB g (occ (giveK l) (giveK l k) k).length f k)) (snoc (snoc (putAt own i none) (rowB g (occ (giveK l) (giveK l k) k).length f k)) x) := kept_new
          have hl2 : lenL (snoc (putAt own i none) (rowB g (occ (giveK l) (giveK l k) k).length f k)) = 2 * k + 1 := hl1
          have hok2 := hok1
          have ht2 := put_grp (g := 0) (f := (fun _ => [])) ht1 hn2 (hkp2 _) hf2 (by rw [hl2, tag_odd])
          have hg2 := hg1.keep (hkp2 (rowB 0 0 (fun _ => []) k)) (by decide)
          have hok3 := own_more (g := 0) (f := (fun _ => [])) hok2 hn2 k hf2
          repeat' (first | with_reducible refine Sq.go ?_ | ((with_reducible refine Ev.mk ?_); conv => whnf) | with_reducible refine Dr.mk ⟨by kernel_rfl, by kernel_rfl⟩ ?_ | with_reducible refine obG ?_ | with_reducible refine Ob.mk ?_ ?_ | (with_reducible first | refine brT fun h => ?_ | refine brF fun h => ?_ | refine Br.mk (fun h => ?_) fun h => ?_) <;> (try simp only [bsl, beq_iff_eq, bne_iff_ne, bs2] at h) <;> (try contradiction) <;> try (exfalso; omega))
          refine op_entryOld hT rfl rfl rfl rfl rfl h1 hv ho fun c => ?_
          repeat' (first | with_reducible refine Sq.go ?_ | ((with_reducible refine Ev.mk ?_); conv => whnf) | with_reducible refine Dr.mk ⟨by kernel_rfl, by kernel_rfl⟩ ?_ | with_reducible refine obG ?_ | with_reducible refine Ob.mk ?_ ?_ | (with_reducible first | refine brT fun h => ?_ | refine brF fun h => ?_ | refine Br.mk (fun h => ?_) fun h => ?_) <;> (try simp only [bsl, beq_iff_eq, bne_iff_ne, bs2] at h) <;> (try contradiction) <;> try (exfalso; omega))
          refine op_entryStore rfl rfl rfl rfl rfl rfl ?_
          repeat' (first | with_reducible refine Sq.go ?_ | ((with_reducible refine Ev.mk ?_); conv => whnf) | with_reducible refine Dr.mk ⟨by kernel_rfl, by kernel_rfl⟩ ?_ | with_reducible refine obG ?_ | with_reducible refine Ob.mk ?_ ?_ | (with_reducible first | refine brT fun h => ?_ | refine brF fun h => ?_ | refine Br.mk (fun h => ?_) fun h => ?_) <;> (try simp only [bsl, beq_iff_eq, bne_iff_ne, bs2] at h) <;> (try contradiction) <;> try (exfalso; omega))
          refine op_entryNew hT rfl rfl True.intro rfl rfl rfl h2 3 1 (fun _ => []) fun c2 => ?_
          repeat' (first | with_reducible refine Sq.go ?_ | ((with_reducible refine Ev.mk ?_); conv => whnf) | with_reducible refine Dr.mk ⟨by kernel_rfl, by kernel_rfl⟩ ?_ | with_reducible refine obG ?_ | with_reducible refine Ob.mk ?_ ?_ | (with_reducible first | refine brT fun h => ?_ | refine brF fun h => ?_ | refine Br.mk (fun h => ?_) fun h => ?_) <;> (try simp only [bsl, beq_iff_eq, bne_iff_ne, bs2] at h) <;> (try contradiction) <;> try (exfalso; omega))
          refine op_entryStore rfl rfl rfl rfl rfl rfl ?_
          repeat' (first | with_reducible refine Sq.go ?_ | ((with_reducible refine Ev.mk ?_); conv => whnf) | with_reducible refine Dr.mk ⟨by kernel_rfl, by kernel_rfl⟩ ?_ | with_reducible refine obG ?_ | with_reducible refine Ob.mk ?_ ?_ | (with_reducible first | refine brT fun h => ?_ | refine brF fun h => ?_ | refine Br.mk (fun h => ?_) fun h => ?_) <;> (try simp only [bsl, beq_iff_eq, bne_iff_ne, bs2] at h) <;> (try contradiction) <;> try (exfalso; omega))
          refine ⟨⟨k + 1, (snoc (snoc (putAt own i none) (rowB g (occ (giveK l) (giveK l k) k).length f k)) (rowB 0 0 (fun _ => []) k)), valB vg (giveK l k) (lenL (putAt own i none)) g (occ (giveK l) (giveK l k) k).length, valB vt (takeK l k) (lenL (snoc (putAt own i none) (rowB g (occ (giveK l) (giveK l k) k).length f k))) 0 0⟩, ⟨by show k + 1 ≤ l.length; omega, by show lenL (snoc (snoc (putAt own i none) (rowB g (occ (giveK l) (giveK l k) k).length f k)) (rowB 0 0 (fun _ => []) k)) = 2 * (k + 1); rw [len_more, hl2]; omega, hok3, hg2, ht2⟩, by show l.length - (k + 1) < l.length - k; omega, ?_⟩
          repeat' (first | exact True.intro | exact rfl | exact Nat.le_refl _ | refine And.intro ?_ ?_)
          · exact mapLe hg2 _
          · exact mapLe ht2 _
          · exact hok3.le _ _
      · have hno : occ (giveK l) (giveK l k) k = [] := by
          cases e : occ (giveK l) (giveK l k) k with
          | nil => rfl
          | cons => exact absurd (hasO_iff.2 (by rw [e]; simp)) h1
        replace h1 : hasO (giveK l) k (giveK l k) = false := by simpa using h1
        have hn : 0 = (occ (giveK l) (giveK l k) k).length := by rw [hno]; rfl
        have hf : ∀ j, j < (occ (giveK l) (giveK l k) k).length → (fun _ => [] : Nat → List AV) j = [.d (.int .i64 ((occ (giveK l) (giveK l k) k).getD j default))] := fun j hj => by omega
        have hkp : ∀ x, Kept (gtag l) false (giveK l k) own (snoc own x) := kept_new
        have hl0 : lenL own = 2 * k := hln
        have hok0 := hok
        have hg1 := put_grp (g := 0) (f := (fun _ => [])) hg hn (hkp _) hf (by rw [hl0, tag_even])
        have ht1 := ht.keep (hkp (rowB 0 0 (fun _ => []) k)) (by decide)
        have hl1 : lenL (snoc own (rowB 0 0 (fun _ => []) k)) = 2 * k + 1 := by rw [len_more, hl0]
        have hok1 := own_more (g := 0) (f := (fun _ => [])) hok0 hn k hf
        by_cases h2 : hasO (takeK l) k (takeK l k) = true
        · obtain ⟨i2, g2, f2, hv2, ho2, hf2, hi2⟩ := ht1.row _ h2
          have hn2 : (occ (takeK l) (takeK l k) k).length = (occ (takeK l) (takeK l k) k).length := rfl
          have hkp2 : ∀ x, Kept (gtag l) true (takeK l k) (snoc own (rowB 0 0 (fun _ => []) k)) (snoc (putAt (snoc own (rowB 0 0 (fun _ => []) k)) i2 none) x) := kept_old hi2
          have hl2 : lenL (putAt (snoc own (rowB 0 0 (fun _ => []) k)) i2 none) = 2 * k + 1 := by rw [len_less, hl1]
          have hok2 := hok1.less i2
          have ht2 := put_grp (g := g2) (f := f2) ht1 hn2 (hkp2 _) hf2 (by rw [hl2, tag_odd])
          have hg2 := hg1.keep (hkp2 (rowB g2 (occ (takeK l) (takeK l k) k).length f2 k)) (by decide)
          have hok3 := own_more (g := g2) (f := f2) hok2 hn2 k hf2
          repeat' (first | with_reducible refine Sq.go ?_ | ((with_reducible refine Ev.mk ?_); conv => whnf) | with_reducible refine Dr.mk ⟨by kernel_rfl, by kernel_rfl⟩ ?_ | with_reducible refine obG ?_ | with_reducible refine Ob.mk ?_ ?_ | (with_reducible first | refine brT fun h => ?_ | refine brF fun h => ?_ | refine Br.mk (fun h => ?_) fun h => ?_) <;> (try simp only [bsl, beq_iff_eq, bne_iff_ne, bs2] at h) <;> (try contradiction) <;> try (exfalso; omega))
          refine op_entryNew hT rfl rfl True.intro rfl rfl rfl h1 3 1 (fun _ => []) fun c => ?_
          repeat' (first | with_reducible refine Sq.go ?_ | ((with_reducible refine Ev.mk ?_); conv => whnf) | with_reducible refine Dr.mk ⟨by kernel_rfl, by kernel_rfl⟩ ?_ | with_reducible refine obG ?_ | with_reducible refine Ob.mk ?_ ?_ | (with_reducible first | refine brT fun h => ?_ | refine brF fun h => ?_ | refine Br.mk (fun h => ?_) fun h => ?_) <;> (try simp only [bsl, beq_iff_eq, bne_iff_ne, bs2] at h) <;> (try contradiction) <;> try (exfalso; omega))
          refine op_entryStore rfl rfl rfl rfl rfl rfl ?_
          repeat' (first | with_reducible refine Sq.go ?_ | ((with_reducible refine Ev.mk ?_); conv => whnf) | with_reducible refine Dr.mk ⟨by kernel_rfl, by kernel_rfl⟩ ?_ | with_reducible refine obG ?_ | with_reducible refine Ob.mk ?_ ?_ | (with_reducible first | refine brT fun h => ?_ | refine brF fun h => ?_ | refine Br.mk (fun h => ?_) fun h => ?_) <;> (try simp only [bsl, beq_iff_eq, bne_iff_ne, bs2] at h) <;> (try contradiction) <;> try (exfalso; omega))
          refine op_entryOld hT rfl rfl rfl rfl rfl h2 hv2 ho2 fun c2 => ?_
          repeat' (first | with_reducible refine Sq.go ?_ | ((with_reducible refine Ev.mk ?_); conv => whnf) | with_reducible refine Dr.mk ⟨by kernel_rfl, by kernel_rfl⟩ ?_ | with_reducible refine obG ?_ | with_reducible refine Ob.mk ?_ ?_ | (with_reducible first | refine brT fun h => ?_ | refine brF fun h => ?_ | refine Br.mk (fun h => ?_) fun h => ?_) <;> (try simp only [bsl, beq_iff_eq, bne_iff_ne, bs2] at h) <;> (try contradiction) <;> try (exfalso; omega))
          refine op_entryStore rfl rfl rfl rfl rfl rfl ?_
          repeat' (first | with_reducible refine Sq.go ?_ | ((with_reducible refine Ev.mk ?_); conv => whnf) | with_reducible refine Dr.mk ⟨by kernel_rfl, by kernel_rfl⟩ ?_ | with_reducible refine obG ?_ | with_reducible refine Ob.mk ?_ ?_ | (with_reducible first | refine brT fun h => ?_ | refine brF fun h => ?_ | refine Br.mk (fun h => ?_) fun h => ?_) <;> (try simp only [bsl, beq_iff_eq, bne_iff_ne, bs2] at h) <;> (try contradiction) <;> try (exfalso; omega))
          refine ⟨⟨k + 1, (snoc (putAt (snoc own (rowB 0 0 (fun _ => []) k)) i2 none) (rowB g2 (occ (takeK l) (takeK l k) k).length f2 k)), valB vg (giveK l k) (lenL own) 0 0, valB vt (takeK l k) (lenL (putAt (snoc own (rowB 0 0 (fun _ => []) k)) i2 none)) g2 (occ (takeK l) (takeK l k) k).length⟩, ⟨by show k + 1 ≤ l.length; omega, by show lenL (snoc (putAt (snoc own (rowB 0 0 (fun _ => []) k)) i2 none) (rowB g2 (occ (takeK l) (takeK l k) k).length f2 k)) = 2 * (k + 1); rw [len_more, hl2]; omega, hok3, hg2, ht2⟩, by show l.length - (k + 1) < l.length - k; omega, ?_⟩
          repeat' (first | exact True.intro | exact rfl | exact Nat.le_refl _ | refine And.intro ?_ ?_)
          · exact mapLe hg2 _
          · exact mapLe ht2 _
          · exact hok3.le _ _
        · have hno2 : occ (takeK l) (takeK l k) k = [] := by
            cases e : occ (takeK l) (takeK l k) k with
            | nil => rfl
            | cons => exact absurd (hasO_iff.2 (by rw [e]; simp)) h2
          replace h2 : hasO (takeK l) k (takeK l k) = false := by simpa using h2
          have hn2 : 0 = (occ (takeK l) (takeK l k) k).length := by rw [hno2]; rfl
          have hf2 : ∀ j, j < (occ (takeK l) (takeK l k) k).length → (fun _ => [] : Nat → List AV) j = [.d (.int .i64 ((occ (takeK l) (takeK l k) k).getD j default))] := fun j hj => by omega
          have hkp2 : ∀ x, Kept (gtag l) true (takeK l k) (snoc own (rowB 0 0 (fun _ => []) k)) (snoc (snoc own (rowB 0 0 (fun _ => []) k)) x) := kept_new
          have hl2 : lenL (snoc own (rowB 0 0 (fun _ => []) k)) = 2 * k + 1 := hl1
          have hok2 := hok1
          have ht2 := put_grp (g := 0) (f := (fun _ => [])) ht1 hn2 (hkp2 _) hf2 (by rw [hl2, tag_odd])
          have hg2 := hg1.keep (hkp2 (rowB 0 0 (fun _ => []) k)) (by decide)
          have hok3 := own_more (g := 0) (f := (fun _ => [])) hok2 hn2 k hf2
          repeat' (first | with_reducible refine Sq.go ?_ | ((with_reducible refine Ev.mk ?_); conv => whnf) | with_reducible refine Dr.mk ⟨by kernel_rfl, by kernel_rfl⟩ ?_ | with_reducible refine obG ?_ | with_reducible refine Ob.mk ?_ ?_ | (with_reducible first | refine brT fun h => ?_ | refine brF fun h => ?_ | refine Br.mk (fun h => ?_) fun h => ?_) <;> (try simp only [bsl, beq_iff_eq, bne_iff_ne, bs2] at h) <;> (try contradiction) <;> try (exfalso; omega))
          refine op_entryNew hT rfl rfl True.intro rfl rfl rfl h1 3 1 (fun _ => []) fun c => ?_
          repeat' (first | with_reducible refine Sq.go ?_ | ((with_reducible refine Ev.mk ?_); conv => whnf) | with_reducible refine Dr.mk ⟨by kernel_rfl, by kernel_rfl⟩ ?_ | with_reducible refine obG ?_ | with_reducible refine Ob.mk ?_ ?_ | (with_reducible first | refine brT fun h => ?_ | refine brF fun h => ?_ | refine Br.mk (fun h => ?_) fun h => ?_) <;> (try simp only [bsl, beq_iff_eq, bne_iff_ne, bs2] at h) <;> (try contradiction) <;> try (exfalso; omega))
          refine op_entryStore rfl rfl rfl rfl rfl rfl ?_
          repeat' (first | with_reducible refine Sq.go ?_ | ((with_reducible refine Ev.mk ?_); conv => whnf) | with_reducible refine Dr.mk ⟨by kernel_rfl, by kernel_rfl⟩ ?_ | with_reducible refine obG ?_ | with_reducible refine Ob.mk ?_ ?_ | (with_reducible first | refine brT fun h => ?_ | refine brF fun h => ?_ | refine Br.mk (fun h => ?_) fun h => ?_) <;> (try simp only [bsl, beq_iff_eq, bne_iff_ne, bs2] at h) <;> (try contradiction) <;> try (exfalso; omega))
          refine op_entryNew hT rfl rfl True.intro rfl rfl rfl h2 3 1 (fun _ => []) fun c2 => ?_
          repeat' (first | with_reducible refine Sq.go ?_ | ((with_reducible refine Ev.mk ?_); conv => whnf) | with_reducible refine Dr.mk ⟨by kernel_rfl, by kernel_rfl⟩ ?_ | with_reducible refine obG ?_ | with_reducible refine Ob.mk ?_ ?_ | (with_reducible first | refine brT fun h => ?_ | refine brF fun h => ?_ | refine Br.mk (fun h => ?_) fun h => ?_) <;> (try simp only [bsl, beq_iff_eq, bne_iff_ne, bs2] at h) <;> (try contradiction) <;> try (exfalso; omega))
          refine op_entryStore rfl rfl rfl rfl rfl rfl ?_
          repeat' (first | with_reducible refine Sq.go ?_ | ((with_reducible refine Ev.mk ?_); conv => whnf) | with_reducible refine Dr.mk ⟨by kernel_rfl, by kernel_rfl⟩ ?_ | with_reducible refine obG ?_ | with_reducible refine Ob.mk ?_ ?_ | (with_reducible first | refine brT fun h => ?_ | refine brF fun h => ?_ | refine Br.mk (fun h => ?_) fun h => ?_) <;> (try simp only [bsl, beq_iff_eq, bne_iff_ne, bs2] at h) <;> (try contradiction) <;> try (exfalso; omega))
          refine ⟨⟨k + 1, (snoc (snoc own (rowB 0 0 (fun _ => []) k)) (rowB 0 0 (fun _ => []) k)), valB vg (giveK l k) (lenL own) 0 0, valB vt (takeK l k) (lenL (snoc own (rowB 0 0 (fun _ => []) k))) 0 0⟩, ⟨by show k + 1 ≤ l.length; omega, by show lenL (snoc (snoc own (rowB 0 0 (fun _ => []) k)) (rowB 0 0 (fun _ => []) k)) = 2 * (k + 1); rw [len_more, hl2]; omega, hok3, hg2, ht2⟩, by show l.length - (k + 1) < l.length - k; omega, ?_⟩
          repeat' (first | exact True.intro | exact rfl | exact Nat.le_refl _ | refine And.intro ?_ ?_)
          · exact mapLe hg2 _
          · exact mapLe ht2 _
          · exact hok3.le _ _
    · obtain rfl : k = l.length := by omega
      repeat' (first | with_reducible refine Sq.go ?_ | ((with_reducible refine Ev.mk ?_); conv => whnf) | with_reducible refine Dr.mk ⟨by kernel_rfl, by kernel_rfl⟩ ?_ | with_reducible refine obG ?_ | with_reducible refine Ob.mk ?_ ?_ | (with_reducible first | refine brT fun h => ?_ | refine brF fun h => ?_ | refine Br.mk (fun h => ?_) fun h => ?_) <;> (try simp only [bsl, beq_iff_eq, bne_iff_ne, bs2] at h) <;> (try contradiction) <;> try (exfalso; omega))
      refine ⟨?_, True.intro⟩
      have hrow : ∀ (m : Mem), m.own = own → ∀ (c : Bool) (p : Nat → List Int) (val : List Int → AV), Grp (gtag l) c own p l.length val → ∀ key, hasO p l.length key = true → BecP m (val key) (eInts (occ p key l.length)) := by
        intro m hm c p val hgr key hh
        obtain ⟨i, g, f, h1, h2, h3, _⟩ := hgr.row key hh
        rw [h1]
        refine BecP.rows (get_of_at (r := .arg i) (by show m.own[i]? = _; rw [hm]; exact h2)) (by omega) (fun j hj => ?_)
        rw [Nat.zero_add, h3 j hj]
        rfl
      conv => whnf
      exact BecP.agg' ⟨.d, .mp rfl (hrow _ rfl _ _ _ hg), .mp rfl (hrow _ rfl _ _ _ ht), True.intro⟩
end Go.Proofs.Ytnhadilbebgbjaa
