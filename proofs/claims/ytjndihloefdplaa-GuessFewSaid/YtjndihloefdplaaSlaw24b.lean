/- Functions: law24b. (Printed by wip/tools/mkfn.py out of wip/src/law24b.src.) -/
import Derived.Test.YtjndihloefdplaaBLib
import Derived.Test.YtjndihloefdplaaSspec
import Derived.Test.YtjndihloefdplaaSspec26
import Derived.Test.YtjndihloefdplaaSterms
import Derived.Test.YtjndihloefdplaaSlcmp
import Derived.Test.YtjndihloefdplaaSvcmp
import Derived.Test.YtjndihloefdplaaSref03
import Derived.Test.YtjndihloefdplaaSref03c
import Derived.Test.YtjndihloefdplaaSbits
import Derived.Test.YtjndihloefdplaaSguess1
import Derived.Test.YtjndihloefdplaaSguess2
import Derived.Test.YtjndihloefdplaaSguess3
import Derived.Test.YtjndihloefdplaaSguess4
import Derived.Test.YtjndihloefdplaaSguess5
import Derived.Test.YtjndihloefdplaaSref24a
import Derived.Test.YtjndihloefdplaaSref24b
import Derived.Test.YtjndihloefdplaaSref24c
import Derived.Test.YtjndihloefdplaaSlarge
import Derived.Test.YtjndihloefdplaaSlaw24
namespace Go.Proofs.Ytjndihloefdplaa.B
open Go Go.RowKit
set_option maxRecDepth 100000
noncomputable section
attribute [local irreducible] awp ctxK itersK iterK retQ retGQ

/-! ### tabellionlaw24.GuessFew -/
def M_l24_GuessFew : Mc Un := mach (tbl [(8, F_l24_Bare), (9, F_l24_awake), (12, F_guess_Rows), (14, F_guess_Pairs), (16, F_guess_Groups)]) (tbl []) (tbl []) (tbl [])
def N_l24_GuessFew : Nat → NS := fun l => (look l []).getD ⟨[], [], [], [], []⟩
def A_l24_GuessFew (r : Bool) : List (A Un) := [.c (.s (.bool r))]
def O_l24_GuessFew (_r : Bool) : List (Ob Un) := []
theorem l24_GuessFew_in (n : Int) (k : Int) (l : List ColStat) (K : List (A Un) → List (Ob Un) → Prop) :
    awp M_l24_GuessFew N_l24_GuessFew (bodyOf Try.f6) (entry Try.f6.ntmps 0 [.d (.v (.s (.int .i64 n))), .d (.v (.s (.int .i64 k))), .d (.v (.dat (U := Un) Ty.colStat l))]) (retQ M_l24_GuessFew Try.f6.results.toList [.d] K) =
((l.length ≤ (1000000000000000000 : Nat)) ∧
(cnd (!l24_Bare l)
 (K (A_l24_GuessFew (true)) (O_l24_GuessFew (true)))
 (cnd (decide (n < (0 : Int)))
  (K (A_l24_GuessFew (true)) (O_l24_GuessFew (true)))
  (cnd (decide (n > (1048576 : Int)))
   (K (A_l24_GuessFew (true)) (O_l24_GuessFew (true)))
   (cnd (decide (k < (0 : Int)))
    (K (A_l24_GuessFew (true)) (O_l24_GuessFew (true)))
    (cnd (decide (k > (1048576 : Int)))
     (K (A_l24_GuessFew (true)) (O_l24_GuessFew (true)))
     (cnd (decide ((↑l.length : Int) > (1 : Int)))
      (((0 : Int) ≤ (0 : Int) ∧ (0 : Int) < (↑l.length : Int)) ∧
      (((0 : Int) ≤ (1 : Int) ∧ (1 : Int) < (↑l.length : Int)) ∧
      (cnd (decide (guess_Rows n k ≥ (0 : Int)))
       (cnd (decide (guess_Rows n k ≤ n))
        (cnd (guess_Rows n (1000000 : Int) == n)
         (cnd (guess_Rows n (0 : Int) == (0 : Int))
          (cnd (guess_Pairs n k (l.getD 0 zeroColStat) (l.getD 1 zeroColStat) == guess_Pairs k n (l.getD 1 zeroColStat) (l.getD 0 zeroColStat))
           (cnd (decide (guess_Pairs n k (l.getD 0 zeroColStat) (l.getD 1 zeroColStat) ≥ (0 : Int)))
            (cnd (decide (guess_Pairs n k (l.getD 0 zeroColStat) (l.getD 1 zeroColStat) ≤ IntKind.i64.wrap (n * k)))
             (cnd (decide (guess_Groups n l ≤ n))
              (K (A_l24_GuessFew (decide (guess_Groups n l > (0 : Int)) == decide (n > (0 : Int)))) (O_l24_GuessFew (decide (guess_Groups n l > (0 : Int)) == decide (n > (0 : Int)))))
              (K (A_l24_GuessFew (false)) (O_l24_GuessFew (false))))
             (K (A_l24_GuessFew (false)) (O_l24_GuessFew (false))))
            (K (A_l24_GuessFew (false)) (O_l24_GuessFew (false))))
           (K (A_l24_GuessFew (false)) (O_l24_GuessFew (false))))
          (K (A_l24_GuessFew (false)) (O_l24_GuessFew (false))))
         (K (A_l24_GuessFew (false)) (O_l24_GuessFew (false))))
        (K (A_l24_GuessFew (false)) (O_l24_GuessFew (false))))
       (K (A_l24_GuessFew (false)) (O_l24_GuessFew (false))))))
      (cnd (decide (guess_Rows n k ≥ (0 : Int)))
       (cnd (decide (guess_Rows n k ≤ n))
        (cnd (guess_Rows n (1000000 : Int) == n)
         (cnd (guess_Rows n (0 : Int) == (0 : Int))
          (cnd (guess_Pairs n k zeroColStat zeroColStat == guess_Pairs k n zeroColStat zeroColStat)
           (cnd (decide (guess_Pairs n k zeroColStat zeroColStat ≥ (0 : Int)))
            (cnd (decide (guess_Pairs n k zeroColStat zeroColStat ≤ IntKind.i64.wrap (n * k)))
             (cnd (decide (guess_Groups n l ≤ n))
              (K (A_l24_GuessFew (decide (guess_Groups n l > (0 : Int)) == decide (n > (0 : Int)))) (O_l24_GuessFew (decide (guess_Groups n l > (0 : Int)) == decide (n > (0 : Int)))))
              (K (A_l24_GuessFew (false)) (O_l24_GuessFew (false))))
             (K (A_l24_GuessFew (false)) (O_l24_GuessFew (false))))
            (K (A_l24_GuessFew (false)) (O_l24_GuessFew (false))))
           (K (A_l24_GuessFew (false)) (O_l24_GuessFew (false))))
          (K (A_l24_GuessFew (false)) (O_l24_GuessFew (false))))
         (K (A_l24_GuessFew (false)) (O_l24_GuessFew (false))))
        (K (A_l24_GuessFew (false)) (O_l24_GuessFew (false))))
       (K (A_l24_GuessFew (false)) (O_l24_GuessFew (false))))))))))) := by kernel_rfl
def l24_GuessFew_fn (n : Int) (k : Int) (l : List ColStat) : Option (Bool) :=
  if l.length ≤ (1000000000000000000 : Nat) then
   if (!l24_Bare l) = true then
    some (true)
   else
    if (decide (n < (0 : Int))) = true then
     some (true)
    else
     if (decide (n > (1048576 : Int))) = true then
      some (true)
     else
      if (decide (k < (0 : Int))) = true then
       some (true)
      else
       if (decide (k > (1048576 : Int))) = true then
        some (true)
       else
        if (decide ((↑l.length : Int) > (1 : Int))) = true then
         if (0 : Int) ≤ (0 : Int) ∧ (0 : Int) < (↑l.length : Int) then
          if (0 : Int) ≤ (1 : Int) ∧ (1 : Int) < (↑l.length : Int) then
           if (decide (guess_Rows n k ≥ (0 : Int))) = true then
            if (decide (guess_Rows n k ≤ n)) = true then
             if (guess_Rows n (1000000 : Int) == n) = true then
              if (guess_Rows n (0 : Int) == (0 : Int)) = true then
               if (guess_Pairs n k (l.getD 0 zeroColStat) (l.getD 1 zeroColStat) == guess_Pairs k n (l.getD 1 zeroColStat) (l.getD 0 zeroColStat)) = true then
                if (decide (guess_Pairs n k (l.getD 0 zeroColStat) (l.getD 1 zeroColStat) ≥ (0 : Int))) = true then
                 if (decide (guess_Pairs n k (l.getD 0 zeroColStat) (l.getD 1 zeroColStat) ≤ IntKind.i64.wrap (n * k))) = true then
                  if (decide (guess_Groups n l ≤ n)) = true then
                   some (decide (guess_Groups n l > (0 : Int)) == decide (n > (0 : Int)))
                  else
                   some (false)
                 else
                  some (false)
                else
                 some (false)
               else
                some (false)
              else
               some (false)
             else
              some (false)
            else
             some (false)
           else
            some (false)
          else none
         else none
        else
         if (decide (guess_Rows n k ≥ (0 : Int))) = true then
          if (decide (guess_Rows n k ≤ n)) = true then
           if (guess_Rows n (1000000 : Int) == n) = true then
            if (guess_Rows n (0 : Int) == (0 : Int)) = true then
             if (guess_Pairs n k zeroColStat zeroColStat == guess_Pairs k n zeroColStat zeroColStat) = true then
              if (decide (guess_Pairs n k zeroColStat zeroColStat ≥ (0 : Int))) = true then
               if (decide (guess_Pairs n k zeroColStat zeroColStat ≤ IntKind.i64.wrap (n * k))) = true then
                if (decide (guess_Groups n l ≤ n)) = true then
                 some (decide (guess_Groups n l > (0 : Int)) == decide (n > (0 : Int)))
                else
                 some (false)
               else
                some (false)
              else
               some (false)
             else
              some (false)
            else
             some (false)
           else
            some (false)
          else
           some (false)
         else
          some (false)
  else none
theorem l24_GuessFew_run {n : Int} {k : Int} {l : List ColStat} {r : Bool} (h : l24_GuessFew_fn n k l = some r) : Runs (awp M_l24_GuessFew N_l24_GuessFew (bodyOf Try.f6) (entry Try.f6.ntmps 0 [.d (.v (.s (.int .i64 n))), .d (.v (.s (.int .i64 k))), .d (.v (.dat (U := Un) Ty.colStat l))]) (retQ M_l24_GuessFew Try.f6.results.toList [.d] fun rs os => rs = A_l24_GuessFew r ∧ os = O_l24_GuessFew r)) := by
  constructor
  rw [l24_GuessFew_in n k l (fun rs os => rs = A_l24_GuessFew r ∧ os = O_l24_GuessFew r)]
  unfold l24_GuessFew_fn at h
  obtain ⟨c1, h2⟩ := ob_some h
  rcases ite_some h2 with ⟨c3, h4⟩ | ⟨c3, h4⟩
  · cases h4
    exact (And.intro c1 (cnd_t c3 ⟨rfl, rfl⟩))
  · rcases ite_some h4 with ⟨c5, h6⟩ | ⟨c5, h6⟩
    · cases h6
      exact (And.intro c1 (cnd_f (bfalse c3) (cnd_t c5 ⟨rfl, rfl⟩)))
    · rcases ite_some h6 with ⟨c7, h8⟩ | ⟨c7, h8⟩
      · cases h8
        exact (And.intro c1 (cnd_f (bfalse c3) (cnd_f (bfalse c5) (cnd_t c7 ⟨rfl, rfl⟩))))
      · rcases ite_some h8 with ⟨c9, h10⟩ | ⟨c9, h10⟩
        · cases h10
          exact (And.intro c1 (cnd_f (bfalse c3) (cnd_f (bfalse c5) (cnd_f (bfalse c7) (cnd_t c9 ⟨rfl, rfl⟩)))))
        · rcases ite_some h10 with ⟨c11, h12⟩ | ⟨c11, h12⟩
          · cases h12
            exact (And.intro c1 (cnd_f (bfalse c3) (cnd_f (bfalse c5) (cnd_f (bfalse c7) (cnd_f (bfalse c9) (cnd_t c11 ⟨rfl, rfl⟩))))))
          · rcases ite_some h12 with ⟨c13, h14⟩ | ⟨c13, h14⟩
            · obtain ⟨c15, h16⟩ := ob_some h14
              obtain ⟨c17, h18⟩ := ob_some h16
              rcases ite_some h18 with ⟨c19, h20⟩ | ⟨c19, h20⟩
              · rcases ite_some h20 with ⟨c21, h22⟩ | ⟨c21, h22⟩
                · rcases ite_some h22 with ⟨c23, h24⟩ | ⟨c23, h24⟩
                  · rcases ite_some h24 with ⟨c25, h26⟩ | ⟨c25, h26⟩
                    · rcases ite_some h26 with ⟨c27, h28⟩ | ⟨c27, h28⟩
                      · rcases ite_some h28 with ⟨c29, h30⟩ | ⟨c29, h30⟩
                        · rcases ite_some h30 with ⟨c31, h32⟩ | ⟨c31, h32⟩
                          · rcases ite_some h32 with ⟨c33, h34⟩ | ⟨c33, h34⟩
                            · cases h34
                              exact (And.intro c1 (cnd_f (bfalse c3) (cnd_f (bfalse c5) (cnd_f (bfalse c7) (cnd_f (bfalse c9) (cnd_f (bfalse c11) (cnd_t c13 (And.intro c15 (And.intro c17 (cnd_t c19 (cnd_t c21 (cnd_t c23 (cnd_t c25 (cnd_t c27 (cnd_t c29 (cnd_t c31 (cnd_t c33 ⟨rfl, rfl⟩)))))))))))))))))
                            · cases h34
                              exact (And.intro c1 (cnd_f (bfalse c3) (cnd_f (bfalse c5) (cnd_f (bfalse c7) (cnd_f (bfalse c9) (cnd_f (bfalse c11) (cnd_t c13 (And.intro c15 (And.intro c17 (cnd_t c19 (cnd_t c21 (cnd_t c23 (cnd_t c25 (cnd_t c27 (cnd_t c29 (cnd_t c31 (cnd_f (bfalse c33) ⟨rfl, rfl⟩)))))))))))))))))
                          · cases h32
                            exact (And.intro c1 (cnd_f (bfalse c3) (cnd_f (bfalse c5) (cnd_f (bfalse c7) (cnd_f (bfalse c9) (cnd_f (bfalse c11) (cnd_t c13 (And.intro c15 (And.intro c17 (cnd_t c19 (cnd_t c21 (cnd_t c23 (cnd_t c25 (cnd_t c27 (cnd_t c29 (cnd_f (bfalse c31) ⟨rfl, rfl⟩))))))))))))))))
                        · cases h30
                          exact (And.intro c1 (cnd_f (bfalse c3) (cnd_f (bfalse c5) (cnd_f (bfalse c7) (cnd_f (bfalse c9) (cnd_f (bfalse c11) (cnd_t c13 (And.intro c15 (And.intro c17 (cnd_t c19 (cnd_t c21 (cnd_t c23 (cnd_t c25 (cnd_t c27 (cnd_f (bfalse c29) ⟨rfl, rfl⟩)))))))))))))))
                      · cases h28
                        exact (And.intro c1 (cnd_f (bfalse c3) (cnd_f (bfalse c5) (cnd_f (bfalse c7) (cnd_f (bfalse c9) (cnd_f (bfalse c11) (cnd_t c13 (And.intro c15 (And.intro c17 (cnd_t c19 (cnd_t c21 (cnd_t c23 (cnd_t c25 (cnd_f (bfalse c27) ⟨rfl, rfl⟩))))))))))))))
                    · cases h26
                      exact (And.intro c1 (cnd_f (bfalse c3) (cnd_f (bfalse c5) (cnd_f (bfalse c7) (cnd_f (bfalse c9) (cnd_f (bfalse c11) (cnd_t c13 (And.intro c15 (And.intro c17 (cnd_t c19 (cnd_t c21 (cnd_t c23 (cnd_f (bfalse c25) ⟨rfl, rfl⟩)))))))))))))
                  · cases h24
                    exact (And.intro c1 (cnd_f (bfalse c3) (cnd_f (bfalse c5) (cnd_f (bfalse c7) (cnd_f (bfalse c9) (cnd_f (bfalse c11) (cnd_t c13 (And.intro c15 (And.intro c17 (cnd_t c19 (cnd_t c21 (cnd_f (bfalse c23) ⟨rfl, rfl⟩))))))))))))
                · cases h22
                  exact (And.intro c1 (cnd_f (bfalse c3) (cnd_f (bfalse c5) (cnd_f (bfalse c7) (cnd_f (bfalse c9) (cnd_f (bfalse c11) (cnd_t c13 (And.intro c15 (And.intro c17 (cnd_t c19 (cnd_f (bfalse c21) ⟨rfl, rfl⟩)))))))))))
              · cases h20
                exact (And.intro c1 (cnd_f (bfalse c3) (cnd_f (bfalse c5) (cnd_f (bfalse c7) (cnd_f (bfalse c9) (cnd_f (bfalse c11) (cnd_t c13 (And.intro c15 (And.intro c17 (cnd_f (bfalse c19) ⟨rfl, rfl⟩))))))))))
            · rcases ite_some h14 with ⟨c35, h36⟩ | ⟨c35, h36⟩
              · rcases ite_some h36 with ⟨c37, h38⟩ | ⟨c37, h38⟩
                · rcases ite_some h38 with ⟨c39, h40⟩ | ⟨c39, h40⟩
                  · rcases ite_some h40 with ⟨c41, h42⟩ | ⟨c41, h42⟩
                    · rcases ite_some h42 with ⟨c43, h44⟩ | ⟨c43, h44⟩
                      · rcases ite_some h44 with ⟨c45, h46⟩ | ⟨c45, h46⟩
                        · rcases ite_some h46 with ⟨c47, h48⟩ | ⟨c47, h48⟩
                          · rcases ite_some h48 with ⟨c49, h50⟩ | ⟨c49, h50⟩
                            · cases h50
                              exact (And.intro c1 (cnd_f (bfalse c3) (cnd_f (bfalse c5) (cnd_f (bfalse c7) (cnd_f (bfalse c9) (cnd_f (bfalse c11) (cnd_f (bfalse c13) (cnd_t c35 (cnd_t c37 (cnd_t c39 (cnd_t c41 (cnd_t c43 (cnd_t c45 (cnd_t c47 (cnd_t c49 ⟨rfl, rfl⟩)))))))))))))))
                            · cases h50
                              exact (And.intro c1 (cnd_f (bfalse c3) (cnd_f (bfalse c5) (cnd_f (bfalse c7) (cnd_f (bfalse c9) (cnd_f (bfalse c11) (cnd_f (bfalse c13) (cnd_t c35 (cnd_t c37 (cnd_t c39 (cnd_t c41 (cnd_t c43 (cnd_t c45 (cnd_t c47 (cnd_f (bfalse c49) ⟨rfl, rfl⟩)))))))))))))))
                          · cases h48
                            exact (And.intro c1 (cnd_f (bfalse c3) (cnd_f (bfalse c5) (cnd_f (bfalse c7) (cnd_f (bfalse c9) (cnd_f (bfalse c11) (cnd_f (bfalse c13) (cnd_t c35 (cnd_t c37 (cnd_t c39 (cnd_t c41 (cnd_t c43 (cnd_t c45 (cnd_f (bfalse c47) ⟨rfl, rfl⟩))))))))))))))
                        · cases h46
                          exact (And.intro c1 (cnd_f (bfalse c3) (cnd_f (bfalse c5) (cnd_f (bfalse c7) (cnd_f (bfalse c9) (cnd_f (bfalse c11) (cnd_f (bfalse c13) (cnd_t c35 (cnd_t c37 (cnd_t c39 (cnd_t c41 (cnd_t c43 (cnd_f (bfalse c45) ⟨rfl, rfl⟩)))))))))))))
                      · cases h44
                        exact (And.intro c1 (cnd_f (bfalse c3) (cnd_f (bfalse c5) (cnd_f (bfalse c7) (cnd_f (bfalse c9) (cnd_f (bfalse c11) (cnd_f (bfalse c13) (cnd_t c35 (cnd_t c37 (cnd_t c39 (cnd_t c41 (cnd_f (bfalse c43) ⟨rfl, rfl⟩))))))))))))
                    · cases h42
                      exact (And.intro c1 (cnd_f (bfalse c3) (cnd_f (bfalse c5) (cnd_f (bfalse c7) (cnd_f (bfalse c9) (cnd_f (bfalse c11) (cnd_f (bfalse c13) (cnd_t c35 (cnd_t c37 (cnd_t c39 (cnd_f (bfalse c41) ⟨rfl, rfl⟩)))))))))))
                  · cases h40
                    exact (And.intro c1 (cnd_f (bfalse c3) (cnd_f (bfalse c5) (cnd_f (bfalse c7) (cnd_f (bfalse c9) (cnd_f (bfalse c11) (cnd_f (bfalse c13) (cnd_t c35 (cnd_t c37 (cnd_f (bfalse c39) ⟨rfl, rfl⟩))))))))))
                · cases h38
                  exact (And.intro c1 (cnd_f (bfalse c3) (cnd_f (bfalse c5) (cnd_f (bfalse c7) (cnd_f (bfalse c9) (cnd_f (bfalse c11) (cnd_f (bfalse c13) (cnd_t c35 (cnd_f (bfalse c37) ⟨rfl, rfl⟩)))))))))
              · cases h36
                exact (And.intro c1 (cnd_f (bfalse c3) (cnd_f (bfalse c5) (cnd_f (bfalse c7) (cnd_f (bfalse c9) (cnd_f (bfalse c11) (cnd_f (bfalse c13) (cnd_f (bfalse c35) ⟨rfl, rfl⟩))))))))

def l24_GuessFew (_n _k : Int) (_l : List ColStat) : Bool := true

theorem pairs_few {n k : Int} (hn : 0 ≤ n ∧ n ≤ 1048576) (hk : 0 ≤ k ∧ k ≤ 1048576) (a b : ColStat) : pairsG n k a b = pairsG k n b a ∧ 0 ≤ pairsG n k a b ∧ pairsG n k a b ≤ n * k := by
  have e1 : szI n = n := szI_id (by omega)
  have e2 : szI k = k := szI_id (by omega)
  have ha := szI_range a.distinct; have hb := szI_range b.distinct
  unfold pairsG
  rw [e1, e2]
  have hmx : max (max (szI b.distinct) (szI a.distinct)) 1 = max (max (szI a.distinct) (szI b.distinct)) 1 := by omega
  rw [hmx]
  have hd : 1 ≤ max (max (szI a.distinct) (szI b.distinct)) 1 := by omega
  generalize max (max (szI a.distinct) (szI b.distinct)) 1 = d at *
  unfold by4
  rw [if_neg (by omega : ¬ d = 0), if_neg (by omega : ¬ d = 0), Int.mul_comm k n]
  have h0 : 0 ≤ n * k := Int.mul_nonneg hn.1 hk.1
  have h1 : n * k / d ≤ n * k := Int.ediv_le_self _ h0
  have h2 : 0 ≤ n * k / d := Int.ediv_nonneg h0 (by omega)
  refine ⟨rfl, by omega, by omega⟩
theorem groups_pos : ∀ (l : List ColStat) (o : Int), 1 ≤ o → 1 ≤ l.foldl stepG o
  | [], _, h => h
  | c :: r, o, h => groups_pos r _ (by
    have hk : 1 ≤ max (szI c.distinct) 1 := by omega
    have : 1 * 1 ≤ o * max (szI c.distinct) 1 := Int.mul_le_mul h hk (by omega) (by omega)
    unfold stepG by4
    rw [if_neg (by decide), Int.ediv_one]; omega)
theorem rows_few {n p : Int} (hn : 0 ≤ n ∧ n ≤ 1048576) : 0 ≤ rowsG n p ∧ rowsG n p ≤ n := by
  have e1 : szI n = n := szI_id (by omega)
  have hc : 0 ≤ clampP p ∧ clampP p ≤ 1000000 := by unfold clampP; omega
  have hl := rows_law (s := n) (p := clampP p) (by omega) hc
  have h1 : 0 ≤ n * clampP p := Int.mul_nonneg hn.1 hc.1
  have h2 : n * clampP p ≤ n * 1000000 := Int.mul_le_mul_of_nonneg_left hc.2 hn.1
  unfold rowsG by4
  rw [e1, if_neg (by decide), ← hl.2]
  generalize n * clampP p = x at *
  omega
theorem rows_all {n : Int} (hn : 0 ≤ n ∧ n ≤ 1048576) : rowsG n 1000000 = n ∧ rowsG n 0 = 0 := by
  have e1 : szI n = n := szI_id (by omega)
  have c1 : clampP 1000000 = 1000000 := by decide
  have c0 : clampP 0 = 0 := by decide
  unfold rowsG by4
  rw [e1, c1, c0]
  simp
  omega
theorem l24_GuessFew_spec (n k : Int) (l : List ColStat) (_h1 : WI n) (_h2 : WI k) (_h3 : WL .colStat l) (h3 : l.length ≤ 1000000000000000000) : l24_GuessFew_fn n k l = some (l24_GuessFew n k l) := by
  unfold l24_GuessFew_fn l24_GuessFew
  rw [if_pos h3]
  simp only [decide_eq_true_eq]
  by_cases hb : (!l24_Bare l) = true
  · rw [if_pos hb]
  rw [if_neg hb]
  by_cases a1 : n < 0
  · rw [if_pos a1]
  rw [if_neg a1]
  by_cases a2 : n > 1048576
  · rw [if_pos a2]
  rw [if_neg a2]
  by_cases a3 : k < 0
  · rw [if_pos a3]
  rw [if_neg a3]
  by_cases a4 : k > 1048576
  · rw [if_pos a4]
  rw [if_neg a4]
  have hn : 0 ≤ n ∧ n ≤ 1048576 := by omega
  have hk : 0 ≤ k ∧ k ≤ 1048576 := by omega
  have r1 := rows_few (p := k) hn
  have r2 := rows_all hn
  have h0 : 0 ≤ n * k := Int.mul_nonneg hn.1 hk.1
  have h5 : n * k ≤ 1048576 * 1048576 := Int.mul_le_mul hn.2 hk.2 hk.1 (by omega)
  have w : IntKind.i64.wrap (n * k) = n * k := wrap_id (by omega)
  have gp := groups_pos l 1 (by omega)
  have e1 : szI n = n := szI_id (by omega)
  have g1 : groupsG n l ≤ n := by unfold groupsG; rw [e1]; omega
  have g2 : (decide (groupsG n l > 0) == decide (n > 0)) = true := by
    have : (groupsG n l > 0) ↔ (n > 0) := by unfold groupsG; rw [e1]; omega
    simp [this]
  have p1 := pairs_few hn hk (l.getD 0 zeroColStat) (l.getD 1 zeroColStat)
  have p2 := pairs_few hn hk zeroColStat zeroColStat
  simp only [guess_Rows_eq, guess_Pairs_eq, guess_Groups_eq, w, r2.1, r2.2, ← p1.1, ← p2.1, beq_self_eq_true, if_true, g2]
  have q1 : rowsG n k ≥ 0 := r1.1
  have q3 : pairsG n k zeroColStat zeroColStat ≥ 0 := p2.2.1
  have q4 : pairsG n k (l.getD 0 zeroColStat) (l.getD 1 zeroColStat) ≥ 0 := p1.2.1
  simp only [q1, r1.2, q3, q4, p1.2.2, p2.2.2, g1, if_true]
  by_cases hl : (l.length : Int) > 1
  · rw [if_pos hl, if_pos (by omega), if_pos (by omega)]
  · rw [if_neg hl]

def F_l24_GuessFew : FnC Un := fun args => match args with
  | [x0, x1, x2] => (dI .i64 x0).bind fun n => (dI .i64 x1).bind fun k => (dL .colStat x2).bind fun l => some ([l.length ≤ 1000000000000000000], A_l24_GuessFew (l24_GuessFew n k l), O_l24_GuessFew (l24_GuessFew n k l))
  | _ => none

theorem ok_l24_GuessFew : FnOK 6 F_l24_GuessFew := by
  intro args ob rs os h hob
  unfold F_l24_GuessFew at h
  split at h
  · simp only [Option.bind_eq_some_iff, Option.some.injEq, Prod.mk.injEq] at h
    obtain ⟨n, e0, k, e1, l, e2, rfl, rfl, rfl⟩ := h
    obtain rfl := dI_eq e0
    obtain rfl := dI_eq e1
    obtain rfl := dL_eq e2
    exact ⟨fn_contract (M := M_l24_GuessFew) rfl (tbl_ok (l1 := [(8, F_l24_Bare), (9, F_l24_awake), (12, F_guess_Rows), (14, F_guess_Pairs), (16, F_guess_Groups)]) (l2 := []) (l3 := []) (l4 := []) ⟨ok_l24_Bare, ok_l24_awake, ok_guess_Rows, ok_guess_Pairs, ok_guess_Groups, trivial⟩ trivial trivial trivial) Try.func6 (by kernel_rfl) N_l24_GuessFew 0 [.d] (fun hwf => l24_GuessFew_run (l24_GuessFew_spec n k l (wfArg hwf (a := .d (.v (.s (.int .i64 n)))) (List.mem_of_getElem? (i := 0) rfl)) (wfArg hwf (a := .d (.v (.s (.int .i64 k)))) (List.mem_of_getElem? (i := 1) rfl)) (wfArg hwf (a := .d (.v (.dat (U := Un) Ty.colStat l))) (List.mem_of_getElem? (i := 2) rfl)) (hob _ (List.mem_of_getElem? (i := 0) rfl)))), hasBody_of Try.func6 (by kernel_rfl) (by kernel_rfl)⟩
  · simp at h


end
end Go.Proofs.Ytjndihloefdplaa.B
