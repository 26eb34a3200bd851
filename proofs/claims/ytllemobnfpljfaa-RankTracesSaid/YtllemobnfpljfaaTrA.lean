import Derived.Test.YtllemobnfpljfaaTrT
set_option linter.unusedSimpArgs false
set_option linter.unusedVariables false
set_option maxRecDepth 10000
set_option maxRecDepth 100000
set_option maxHeartbeats 8000000
namespace Go.Proofs.Ytllemobnfpljfaa
open Go Go.Hs
def L108 (r : Nat) : Option (List Nat) := kl r [(0,[0,1,2,3]),(1,[0,1,2,3,12,13]),(2,[1,2,12,13,14,15]),(3,[12,14,49]),(4,[8,9,10,11]),(5,[12,14,16,17]),(6,[8,9,10,11])]
def O108 (r : Nat) : List Nat × OT := ordl r []
def L56 (r : Nat) : Option (List Nat) := kl r [(0,[0,1,2,3]),(1,[9,10,11,12]),(2,[9,10,11,12,29]),(3,[8]),(4,[9,10,11,12,13,14]),(5,[9,10,11,12,13,14,15]),(6,[9,10,11,12,13,14,15,42]),(7,[9,10,11,12,13,14,15]),(8,[9,10,11,12,13,14,15,53]),(9,[8]),(10,[9,10,11,12,13,14,15,62]),(11,[8]),(12,[16,17]),(13,[16,17,81]),(14,[8]),(15,[89]),(16,[8]),(17,[8])]
def O56 (r : Nat) : List Nat × OT := ordl r [(8,([],.val 0 (.val 1 (.val 2 (.val 4 (.val 5 (.val 6 (.load 3 (.load 7 (.val 8 (.done))))))))))),(10,([],.val 0 (.val 1 (.val 2 (.val 4 (.val 5 (.val 6 (.load 3 (.load 7 (.val 8 (.done))))))))))),(12,([],.val 0 (.val 1 (.val 2 (.val 4 (.val 7 (.val 8 (.val 9 (.val 11 (.load 3 (.val 5 (.load 6 (.val 14 (.load 10 (.val 12 (.load 13 (.val 15 (.done))))))))))))))))))]
theorem path_slen {l : List Tm} (hr : rightF l = true) : ∀ n q,q < n → q < l.length → ∀ h ∈ pathG l n q,h.2.length ≤ 804 * n
  | 0,q,hn,_,_,_ => by omega
  | n + 1,q,hn,hq,h,hh => by
    have put : ∀ (s : List Int) (c : Nat) (u : Int × List Int),c < n → c < l.length → s.length ≤ 803 → u ∈ pathG l n c → h = hpre s u → h.2.length ≤ 804 * (n + 1) := by
      intro s c u h1 h2 h3 hu e
      have := path_slen hr n c h1 h2 u hu
      subst e
      show (s ++ u.2).length ≤ _
      rw [List.length_append];omega
    rcases node_cases hr hq with ⟨k1,e⟩|⟨k1,c,d,e1,hcd,e2,e3,_⟩|⟨k1,d,e1,e3,_⟩
    · rcases k1 with k1|k1
      · rw [pathG,if_neg (by omega),if_neg (by omega),if_neg (by omega),if_neg (by omega)] at hh
        cases hh
      · rw [pathG,if_pos k1] at hh
        obtain rfl := List.mem_singleton.1 hh
        show [(2 * q : Int)].length ≤ _
        simp;omega
    · rw [pathG,if_neg (by omega),e2,e3,Int.toNat_natCast,Int.toNat_natCast] at hh
      have sl := steps_len hr (q := c) (by omega)
      split at hh
      · rcases List.mem_append.1 hh with hh|hh
        · obtain ⟨u,hu,e⟩ := List.mem_map.1 hh
          exact put _ c u (by omega) (by omega) (by simp) hu e.symm
        · split at hh
          · obtain ⟨u,hu,e⟩ := List.mem_map.1 hh
            exact put _ d u (by omega) (by omega) (by rw [List.length_cons];omega) hu e.symm
          · cases hh
      · rw [if_pos (by omega)] at hh
        rcases List.mem_append.1 hh with hh|hh
        · obtain ⟨u,hu,e⟩ := List.mem_map.1 hh
          exact put _ c u (by omega) (by omega) (by simp) hu e.symm
        · obtain ⟨u,hu,e⟩ := List.mem_map.1 hh
          exact put _ d u (by omega) (by omega) (by simp) hu e.symm
    · rw [pathG,if_neg (by omega),if_neg (by omega),if_neg (by omega),if_pos (by omega),e3,Int.toNat_natCast] at hh
      obtain ⟨u,hu,e⟩ := List.mem_map.1 hh
      exact put _ d u (by omega) (by omega) (by simp) hu e.symm
theorem hop_slen {l : List Tm} {p r : Int} {h : Hq} (e : hopF l p r = some h) : h.2.2.length ≤ 1000000 := by
  have hi := hop_is e
  have hr := hi.right
  have ht := term_of_right hr
  have hle := ht.le
  have hm := List.mem_of_find?_eq_some e
  by_cases hp : p = -1
  · rw [if_pos hp] at hm
    unfold rootF at hm
    rw [if_pos hr] at hm
    obtain ⟨x,hx,rfl⟩ := List.mem_map.1 hm
    have := path_slen hr l.length (l.length - 1) (by have := ht.pos;omega) (by have := ht.pos;omega) x hx
    show ([] ++ x.2).length ≤ _
    rw [List.nil_append];omega
  · rw [if_neg hp] at hm
    unfold fromF at hm
    split at hm
    · rename_i hin
      obtain ⟨l1,_,_⟩ := leafN_ok hr hin
      obtain ⟨m,goal,t,g⟩ := all_hops hr l1 h (fromN_mem _ h hm)
      obtain ⟨g1,_,_⟩ := g.goal_ok hr l1
      have := path_slen hr l.length goal g1 g1 _ g.path
      have this : t.length ≤ 804 * l.length := this
      have b := back_len hr l1 m g.ok
      have n := node_ge hr l1 m g.ok
      have c := (climb_ok hr l1 m g.ok).1
      rw [g.steps,List.length_append];omega
    · cases hm
theorem frI_len {l : List Tm} {run : List Int} {i : Nat} : (frI l run i).length ≤ 1000000 := by
  unfold frI
  split
  · rename_i h e;exact hop_slen e
  · simp
theorem frN_rows {l : List Tm} {run : List Int} {n : Nat} : ∀ i,(rAt (frN l run n) i).length ≤ 1000000 := fun i => by
  by_cases h : i < n
  · rw [rowAt_len h];exact frI_len
  · unfold rAt
    rw [List.getD_eq_getElem?_getD,List.getElem?_eq_none (by rw [frN_len];omega)];simp
theorem lowN_congr {A B : Nat → List Int} {k s n : Nat} (h : ∀ i,i < n → A i = B i) : ∀ j,k + j < n → lowN A k s j = lowN B k s j
  | 0,hj => by
    have e1 : openN A k = openN B k := open_same (fun i hi => h i (by omega))
    have e2 : A k = B k := h k (by omega)
    rw [lowN,lowN,e1,e2]
  | j + 1,hj => by
    have ih := lowN_congr (k := k) (s := s) h j (by omega)
    have e1 : openN A (k + (j + 1)) = openN B (k + (j + 1)) := open_same (fun i hi => h i (by omega))
    rw [lowN,lowN,ih,e1,h (k + (j + 1)) hj]
theorem ahN_congr {A A' B B' : Nat → List Int} {k s n : Nat} (h : ∀ i,i < n → A i = A' i) (h2 : ∀ i,i < n → B i = B' i) : ∀ j,k + j < n → ahN A B k s j = ahN A' B' k s j
  | 0,hj => by
    rw [ahN,ahN,lowN_congr h 0 hj,lowN_congr h2 0 hj,h k (by omega),h2 k (by omega)]
  | j + 1,hj => by
    rw [ahN,ahN,lowN_congr h (j + 1) hj,lowN_congr h2 (j + 1) hj,ahN_congr h h2 j (by omega)]
theorem ahN_down {A B : Nat → List Int} {k s N : Nat} : ∀ {j : Nat},1 ≤ j → j ≤ N → (∀ i,j ≤ i → i < N → lowN A k s i = lowN B k s i) → ahN A B k s (N - 1) = ahN A B k s (j - 1) := fun {j} h1 h2 h3 => by
  induction N with
  | zero => omega
  | succ N ih =>
    by_cases e : j = N + 1
    · subst e;rfl
    · have ih := ih (by omega) (fun i hi hi2 => h3 i hi (by omega))
      rw [← ih]
      obtain ⟨M,rfl⟩ : ∃ M,N = M + 1 := ⟨N - 1,by omega⟩
      show ahN A B k s (M + 1) = ahN A B k s M
      have := h3 (M + 1) (by omega) (by omega)
      rw [ahN,ahd,this,if_neg (by omega),if_neg (by omega)]
theorem lowsL_get {A : Nat → List Int} {k s n i : Nat} (h : i < n) : (lowsL A k s n).getD i 0 = lowN A k s i := by
  unfold lowsL
  simp [List.getD_eq_getElem?_getD,h]
attribute [local go_sem] tltT tltF tleT tleF tbeT tbeF tbnT tbnF AV.isS length_rRows rRows_frzT getRow takeRr exRr
set_option maxRecDepth 100000 in
set_option maxHeartbeats 8000000 in
theorem two_ok (l : List Tm) (hr : rightF l = true) (a b : List Int) (hal : a.length ≤ 20) (hbl : b.length = a.length) (ha : ∀ i,i < a.length → (hopI l a i).isSome = true) (hb : ∀ i,i < a.length → (hopI l b i).isSome = true) (hne : a ≠ b) (k s : Nat) (p : PartL (frN l a a.length) (frN l b a.length) k s) :
    ContractR Try.prog 108 [.c (.sl 8 (tRows l)),.c (.sl 1 (kRows .i64 a)),.c (.sl 1 (kRows .i64 b)),.c (.im (.bool false))] (fun r => ∃ b1 b2,r = .tup [.c (.own b1 25 1 (rRows (frN l a a.length))),.c (.own b2 25 1 (rRows (frN l b a.length))),.c (.im (.int .i64 k)),.c (.im (.int .i64 s))]) := by
  have f1 := frames_ok l hr a (by omega) ha
  have f2 := frames_ok l hr b (by omega) (by rw [hbl];exact hb)
  rw [hbl] at f2
  have hin := Ints_ok a b (by omega) (by omega)
  rw [decide_eq_false hne] at hin
  have hpa := partT_ok _ _ k s p (by rw [frN_len];omega) (by rw [frN_len];omega) frN_rows frN_rows
  have l1 := frN_len (l := l) (run := a) (n := a.length)
  have l2 := frN_len (l := l) (run := b) (n := a.length)
  generalize frN l a a.length = A at *
  generalize frN l b a.length = B at *
  (refine contract_of_awp (L := L108) Try.func108 rfl (by kernel_rfl) (by first|rfl|decide) (by first|rfl|kernel_rfl) ?_;simp only [Try.ntmps108,initEnv,Env.keys,List.map_nil,List.map_cons,List.append_nil,List.cons_append,List.nil_append])
  (repeat (first|(refine sA ?_;try intro KR kR)|(with_reducible refine sD O108 ?_;intro KR kR;simp only [O108,ordl,seval])|(refine sB ?_;intro K hK;simp (disch := omega) only [go_sem,seval];(try ((with_reducible first|refine Gt ?_|refine gopO_f rfl ?_|refine Gv rfl ?_);simp (disch := omega) only [go_sem,seval]));(repeat first|intro (xb : Blk)|intro (xk : Nat)|intro hx|refine pC ?_);refine hK _ ?_;clear K hK)|(refine sE ?_;simp only [go_sem,seval,L56,O56,L108,O108];refine kR _ ?_;clear KR kR)|(simp only [thenE,inB,seval])))
  (refine sB ?_;intro K hK;simp (disch := omega) only [go_sem,seval];(try ((with_reducible refine Gt ?_);simp (disch := omega) only [go_sem,seval]));refine cN ?_;simp (disch := omega) only [go_sem,seval];refine ⟨_,_,ContractH.n (f1),?_⟩;intro r H' hr hk;(try obtain rfl := keys_nil hk);(obtain ⟨b1,rfl⟩ := hr);(try simp (disch := omega) only [AV.flat,AC.flat,AC.flat.flatL,AC.flat.flatLL,go_sem,seval]);(repeat first|intro (xb : Blk)|intro (xk : Nat)|intro hx|refine pC ?_);refine hK _ ?_;clear K hK)
  (repeat (first|(refine sA ?_;try intro KR kR)|(with_reducible refine sD O108 ?_;intro KR kR;simp only [O108,ordl,seval])|(refine sB ?_;intro K hK;simp (disch := omega) only [go_sem,seval];(try ((with_reducible first|refine Gt ?_|refine gopO_f rfl ?_|refine Gv rfl ?_);simp (disch := omega) only [go_sem,seval]));(repeat first|intro (xb : Blk)|intro (xk : Nat)|intro hx|refine pC ?_);refine hK _ ?_;clear K hK)|(refine sE ?_;simp only [go_sem,seval,L56,O56,L108,O108];refine kR _ ?_;clear KR kR)|(simp only [thenE,inB,seval])))
  (refine sB ?_;intro K hK;simp (disch := omega) only [go_sem,seval];(try ((with_reducible refine Gt ?_);simp (disch := omega) only [go_sem,seval]));refine cN ?_;simp (disch := omega) only [go_sem,seval];refine ⟨_,_,ContractH.n (f2),?_⟩;intro r H' hr hk;(try obtain rfl := keys_nil hk);(obtain ⟨b2,rfl⟩ := hr);(try simp (disch := omega) only [AV.flat,AC.flat,AC.flat.flatL,AC.flat.flatLL,go_sem,seval]);(repeat first|intro (xb : Blk)|intro (xk : Nat)|intro hx|refine pC ?_);refine hK _ ?_;clear K hK)
  (repeat (first|(refine sA ?_;try intro KR kR)|(with_reducible refine sD O108 ?_;intro KR kR;simp only [O108,ordl,seval])|(refine sB ?_;intro K hK;simp (disch := omega) only [go_sem,seval];(try ((with_reducible first|refine Gt ?_|refine gopO_f rfl ?_|refine Gv rfl ?_);simp (disch := omega) only [go_sem,seval]));(repeat first|intro (xb : Blk)|intro (xk : Nat)|intro hx|refine pC ?_);refine hK _ ?_;clear K hK)|(refine sE ?_;simp only [go_sem,seval,L56,O56,L108,O108];refine kR _ ?_;clear KR kR)|(simp only [thenE,inB,seval])))
  (refine sB ?_;intro K hK;simp (disch := omega) only [go_sem,seval];(try ((with_reducible refine Gt ?_);simp (disch := omega) only [go_sem,seval]));refine cN ?_;simp (disch := omega) only [go_sem,seval];refine ⟨_,_,ContractH.n (hin),?_⟩;intro r H' hr hk;(try obtain rfl := keys_nil hk);(first|subst hr|(obtain ⟨_,rfl⟩ := hr)|(obtain ⟨_,_,rfl⟩ := hr)|(obtain ⟨_,_,_,rfl⟩ := hr));(try simp (disch := omega) only [AV.flat,AC.flat,AC.flat.flatL,AC.flat.flatLL,go_sem,seval]);(repeat first|intro (xb : Blk)|intro (xk : Nat)|intro hx|refine pC ?_);refine hK _ ?_;clear K hK)
  (repeat (first|(refine sA ?_;try intro KR kR)|(with_reducible refine sD O108 ?_;intro KR kR;simp only [O108,ordl,seval])|(refine sB ?_;intro K hK;simp (disch := omega) only [go_sem,seval];(try ((with_reducible first|refine Gt ?_|refine gopO_f rfl ?_|refine Gv rfl ?_);simp (disch := omega) only [go_sem,seval]));(repeat first|intro (xb : Blk)|intro (xk : Nat)|intro hx|refine pC ?_);refine hK _ ?_;clear K hK)|(refine sE ?_;simp only [go_sem,seval,L56,O56,L108,O108];refine kR _ ?_;clear KR kR)|(simp only [thenE,inB,seval])))
  ((with_reducible refine Ac ?_);intro K hK;simp (disch := omega) only [condK,go_sem,seval];refine hK _ ?_ ?_;all_goals clear K hK;all_goals intro hq;all_goals (try simp only [qF,reduceCtorEq] at hq);all_goals (try (exfalso;first|exact hq|omega)))
  (repeat (first|(refine sA ?_;try intro KR kR)|(with_reducible refine sD O108 ?_;intro KR kR;simp only [O108,ordl,seval])|(refine sB ?_;intro K hK;simp (disch := omega) only [go_sem,seval];(try ((with_reducible first|refine Gt ?_|refine gopO_f rfl ?_|refine Gv rfl ?_);simp (disch := omega) only [go_sem,seval]));(repeat first|intro (xb : Blk)|intro (xk : Nat)|intro hx|refine pC ?_);refine hK _ ?_;clear K hK)|(refine sE ?_;simp only [go_sem,seval,L56,O56,L108,O108];refine kR _ ?_;clear KR kR)|(simp only [thenE,inB,seval])))
  (refine sB ?_;intro K hK;simp (disch := omega) only [go_sem,seval];(try ((with_reducible refine Gt ?_);simp (disch := omega) only [go_sem,seval]));refine cN ?_;simp (disch := omega) only [go_sem,seval];refine ⟨_,_,ContractH.n (hpa),?_⟩;intro r H' hr hk;(try obtain rfl := keys_nil hk);(first|subst hr|(obtain ⟨_,rfl⟩ := hr)|(obtain ⟨_,_,rfl⟩ := hr)|(obtain ⟨_,_,_,rfl⟩ := hr));(try simp (disch := omega) only [AV.flat,AC.flat,AC.flat.flatL,AC.flat.flatLL,go_sem,seval]);(repeat first|intro (xb : Blk)|intro (xk : Nat)|intro hx|refine pC ?_);refine hK _ ?_;clear K hK)
  (repeat (first|(refine sA ?_;try intro KR kR)|(with_reducible refine sD O108 ?_;intro KR kR;simp only [O108,ordl,seval])|(refine sB ?_;intro K hK;simp (disch := omega) only [go_sem,seval];(try ((with_reducible first|refine Gt ?_|refine gopO_f rfl ?_|refine Gv rfl ?_);simp (disch := omega) only [go_sem,seval]));(repeat first|intro (xb : Blk)|intro (xk : Nat)|intro hx|refine pC ?_);refine hK _ ?_;clear K hK)|(refine sE ?_;simp only [go_sem,seval,L56,O56,L108,O108];refine kR _ ?_;clear KR kR)|(simp only [thenE,inB,seval])))
  (simp only [retQ,Try.results108];simp (disch := omega) only [resK,resT,resAV,Env.sel,Env.keys,List.map_nil,List.map_cons,List.all_nil,List.all_cons,AV.isS,Bool.not_false,Bool.and_self,Option.map_some,List.length_cons,List.length_nil,Nat.zero_add,Nat.reduceAdd,not_false_eq_true,true_and,and_true,ne_eq,go_sem,seval,ne_eq])
  exact ⟨b1,b2,rfl⟩
set_option maxRecDepth 100000 in
set_option maxHeartbeats 8000000 in
theorem aheadE_ok (l : List Tm) (hr : rightF l = true) (a : List Int) (hal : a.length ≤ 20) (ha : ∀ i,i < a.length → (hopI l a i).isSome = true) :
    Contract Try.prog 56 [.c (.sl 8 (tRows l)),.c (.sl 1 (kRows .i64 a)),.c (.sl 1 (kRows .i64 a)),.c (.im (.bool false))] (.c (.im (.int .i64 0))) := by
  have f1 := frames_ok l hr a (by omega) ha
  have hin := Ints_ok a a (by omega) (by omega)
  rw [decide_eq_true rfl] at hin
  have h2 : Contract Try.prog 108 [.c (.sl 8 (tRows l)),.c (.sl 1 (kRows .i64 a)),.c (.sl 1 (kRows .i64 a)),.c (.im (.bool false))] (.tup [.c (.own none 25 1 []),.c (.own none 25 1 []),.c (.im (.int .i64 (-1))),.c (.im (.int .i64 0))]) := by
    generalize frN l a a.length = A at *
    (refine contract_of_awp (L := L108) Try.func108 rfl (by kernel_rfl) (by first|rfl|decide) (by first|rfl|kernel_rfl) ?_;simp only [Try.ntmps108,initEnv,Env.keys,List.map_nil,List.map_cons,List.append_nil,List.cons_append,List.nil_append])
    (repeat (first|(refine sA ?_;try intro KR kR)|(with_reducible refine sD O108 ?_;intro KR kR;simp only [O108,ordl,seval])|(refine sB ?_;intro K hK;simp (disch := omega) only [go_sem,seval];(try ((with_reducible first|refine Gt ?_|refine gopO_f rfl ?_|refine Gv rfl ?_);simp (disch := omega) only [go_sem,seval]));(repeat first|intro (xb : Blk)|intro (xk : Nat)|intro hx|refine pC ?_);refine hK _ ?_;clear K hK)|(refine sE ?_;simp only [go_sem,seval,L56,O56,L108,O108];refine kR _ ?_;clear KR kR)|(simp only [thenE,inB,seval])))
    (refine sB ?_;intro K hK;simp (disch := omega) only [go_sem,seval];(try ((with_reducible refine Gt ?_);simp (disch := omega) only [go_sem,seval]));refine cN ?_;simp (disch := omega) only [go_sem,seval];refine ⟨_,_,ContractH.n (f1),?_⟩;intro r H' hr hk;(try obtain rfl := keys_nil hk);(obtain ⟨b1,rfl⟩ := hr);(try simp (disch := omega) only [AV.flat,AC.flat,AC.flat.flatL,AC.flat.flatLL,go_sem,seval]);(repeat first|intro (xb : Blk)|intro (xk : Nat)|intro hx|refine pC ?_);refine hK _ ?_;clear K hK)
    (repeat (first|(refine sA ?_;try intro KR kR)|(with_reducible refine sD O108 ?_;intro KR kR;simp only [O108,ordl,seval])|(refine sB ?_;intro K hK;simp (disch := omega) only [go_sem,seval];(try ((with_reducible first|refine Gt ?_|refine gopO_f rfl ?_|refine Gv rfl ?_);simp (disch := omega) only [go_sem,seval]));(repeat first|intro (xb : Blk)|intro (xk : Nat)|intro hx|refine pC ?_);refine hK _ ?_;clear K hK)|(refine sE ?_;simp only [go_sem,seval,L56,O56,L108,O108];refine kR _ ?_;clear KR kR)|(simp only [thenE,inB,seval])))
    (refine sB ?_;intro K hK;simp (disch := omega) only [go_sem,seval];(try ((with_reducible refine Gt ?_);simp (disch := omega) only [go_sem,seval]));refine cN ?_;simp (disch := omega) only [go_sem,seval];refine ⟨_,_,ContractH.n (f1),?_⟩;intro r H' hr hk;(try obtain rfl := keys_nil hk);(obtain ⟨b2,rfl⟩ := hr);(try simp (disch := omega) only [AV.flat,AC.flat,AC.flat.flatL,AC.flat.flatLL,go_sem,seval]);(repeat first|intro (xb : Blk)|intro (xk : Nat)|intro hx|refine pC ?_);refine hK _ ?_;clear K hK)
    (repeat (first|(refine sA ?_;try intro KR kR)|(with_reducible refine sD O108 ?_;intro KR kR;simp only [O108,ordl,seval])|(refine sB ?_;intro K hK;simp (disch := omega) only [go_sem,seval];(try ((with_reducible first|refine Gt ?_|refine gopO_f rfl ?_|refine Gv rfl ?_);simp (disch := omega) only [go_sem,seval]));(repeat first|intro (xb : Blk)|intro (xk : Nat)|intro hx|refine pC ?_);refine hK _ ?_;clear K hK)|(refine sE ?_;simp only [go_sem,seval,L56,O56,L108,O108];refine kR _ ?_;clear KR kR)|(simp only [thenE,inB,seval])))
    (refine sB ?_;intro K hK;simp (disch := omega) only [go_sem,seval];(try ((with_reducible refine Gt ?_);simp (disch := omega) only [go_sem,seval]));refine cN ?_;simp (disch := omega) only [go_sem,seval];refine ⟨_,_,ContractH.n (hin),?_⟩;intro r H' hr hk;(try obtain rfl := keys_nil hk);(first|subst hr|(obtain ⟨_,rfl⟩ := hr)|(obtain ⟨_,_,rfl⟩ := hr)|(obtain ⟨_,_,_,rfl⟩ := hr));(try simp (disch := omega) only [AV.flat,AC.flat,AC.flat.flatL,AC.flat.flatLL,go_sem,seval]);(repeat first|intro (xb : Blk)|intro (xk : Nat)|intro hx|refine pC ?_);refine hK _ ?_;clear K hK)
    (repeat (first|(refine sA ?_;try intro KR kR)|(with_reducible refine sD O108 ?_;intro KR kR;simp only [O108,ordl,seval])|(refine sB ?_;intro K hK;simp (disch := omega) only [go_sem,seval];(try ((with_reducible first|refine Gt ?_|refine gopO_f rfl ?_|refine Gv rfl ?_);simp (disch := omega) only [go_sem,seval]));(repeat first|intro (xb : Blk)|intro (xk : Nat)|intro hx|refine pC ?_);refine hK _ ?_;clear K hK)|(refine sE ?_;simp only [go_sem,seval,L56,O56,L108,O108];refine kR _ ?_;clear KR kR)|(simp only [thenE,inB,seval])))
    ((with_reducible refine Ac ?_);intro K hK;simp (disch := omega) only [condK,go_sem,seval];refine hK _ ?_ ?_;all_goals clear K hK;all_goals intro hq;all_goals (try simp only [qF,reduceCtorEq] at hq);all_goals (try (exfalso;first|exact hq|omega)))
    (repeat (first|(refine sA ?_;try intro KR kR)|(with_reducible refine sD O108 ?_;intro KR kR;simp only [O108,ordl,seval])|(refine sB ?_;intro K hK;simp (disch := omega) only [go_sem,seval];(try ((with_reducible first|refine Gt ?_|refine gopO_f rfl ?_|refine Gv rfl ?_);simp (disch := omega) only [go_sem,seval]));(repeat first|intro (xb : Blk)|intro (xk : Nat)|intro hx|refine pC ?_);refine hK _ ?_;clear K hK)|(refine sE ?_;simp only [go_sem,seval,L56,O56,L108,O108];refine kR _ ?_;clear KR kR)|(simp only [thenE,inB,seval])))
    (simp only [retQ,Try.results108];simp (disch := omega) only [resK,resT,resAV,Env.sel,Env.keys,List.map_nil,List.map_cons,List.all_nil,List.all_cons,AV.isS,Bool.not_false,Bool.and_self,Option.map_some,List.length_cons,List.length_nil,Nat.zero_add,Nat.reduceAdd,not_false_eq_true,true_and,and_true,ne_eq,go_sem,seval,ne_eq])
  (refine contract_of_awp (L := L56) Try.func56 rfl (by kernel_rfl) (by first|rfl|decide) (by first|rfl|kernel_rfl) ?_;simp only [Try.ntmps56,initEnv,Env.keys,List.map_nil,List.map_cons,List.append_nil,List.cons_append,List.nil_append])
  (repeat (first|(refine sA ?_;try intro KR kR)|(with_reducible refine sD O56 ?_;intro KR kR;simp only [O56,ordl,seval])|(refine sB ?_;intro K hK;simp (disch := omega) only [go_sem,seval];(try ((with_reducible first|refine Gt ?_|refine gopO_f rfl ?_|refine Gv rfl ?_);simp (disch := omega) only [go_sem,seval]));(repeat first|intro (xb : Blk)|intro (xk : Nat)|intro hx|refine pC ?_);refine hK _ ?_;clear K hK)|(refine sE ?_;simp only [go_sem,seval,L56,O56,L108,O108];refine kR _ ?_;clear KR kR)|(simp only [thenE,inB,seval])))
  (refine sB ?_;intro K hK;simp (disch := omega) only [go_sem,seval];(try ((with_reducible refine Gt ?_);simp (disch := omega) only [go_sem,seval]));refine cN ?_;simp (disch := omega) only [go_sem,seval];refine ⟨_,_,ContractH.n (h2),?_⟩;intro r H' hr hk;(try obtain rfl := keys_nil hk);(first|subst hr|(obtain ⟨_,rfl⟩ := hr)|(obtain ⟨_,_,rfl⟩ := hr)|(obtain ⟨_,_,_,rfl⟩ := hr));(try simp (disch := omega) only [AV.flat,AC.flat,AC.flat.flatL,AC.flat.flatLL,go_sem,seval]);(repeat first|intro (xb : Blk)|intro (xk : Nat)|intro hx|refine pC ?_);refine hK _ ?_;clear K hK)
  (repeat' (first|(refine sA ?_;try intro KR kR)|(with_reducible refine sD O56 ?_;intro KR kR;simp only [O56,ordl,seval])|(refine sB ?_;intro K hK;simp (disch := omega) only [go_sem,seval];(try ((with_reducible first|refine Gt ?_|refine gopO_f rfl ?_|refine Gv rfl ?_);simp (disch := omega) only [go_sem,seval]));(repeat first|intro (xb : Blk)|intro (xk : Nat)|intro hx|refine pC ?_);refine hK _ ?_;clear K hK)|(refine sE ?_;simp only [go_sem,seval,L56,O56,L108,O108];refine kR _ ?_;clear KR kR)|(simp only [thenE,inB,seval])|((with_reducible refine Ac ?_);intro K hK;simp (disch := omega) only [condK,go_sem,seval];refine hK _ ?_ ?_;all_goals clear K hK;all_goals intro hq;all_goals (try simp only [qF,reduceCtorEq] at hq);all_goals (try (exfalso;first|exact hq|omega)))))
  (simp only [retQ,Try.results56];simp (disch := omega) only [resK,resT,resAV,Env.sel,Env.keys,List.map_nil,List.map_cons,List.all_nil,List.all_cons,AV.isS,Bool.not_false,Bool.and_self,Option.map_some,List.length_cons,List.length_nil,Nat.zero_add,Nat.reduceAdd,not_false_eq_true,true_and,and_true,ne_eq,go_sem,seval,ne_eq])
set_option maxRecDepth 100000 in
set_option maxHeartbeats 8000000 in
theorem aheadT_ok (l : List Tm) (hr : rightF l = true) (a b : List Int) (hal : a.length ≤ 20) (hbl : b.length = a.length) (ha : ∀ i,i < a.length → (hopI l a i).isSome = true) (hb : ∀ i,i < a.length → (hopI l b i).isSome = true) (hne : a ≠ b) (k s : Nat) (hk : k < a.length) (p : Parts (frI l a) (frI l b) k s) :
    Contract Try.prog 56 [.c (.sl 8 (tRows l)),.c (.sl 1 (kRows .i64 a)),.c (.sl 1 (kRows .i64 b)),.c (.im (.bool false))] (.c (.im (.int .i64 (ahN (frI l a) (frI l b) k s (a.length - k - 1))))) := by
  have l1 := frN_len (l := l) (run := a) (n := a.length)
  have l2 := frN_len (l := l) (run := b) (n := a.length)
  have q1 := fun i (h : i < a.length) => rowAt_len (l := l) (run := a) h
  have q2 := fun i (h : i < a.length) => rowAt_len (l := l) (run := b) h
  have pl : PartL (frN l a a.length) (frN l b a.length) k s := by
    refine ⟨by omega,by omega,fun i hi => ?_,?_,?_,?_,?_⟩
    · rw [q1 i (by omega),q2 i (by omega)];exact p.same i hi
    · rw [q1 k hk,q2 k hk];exact p.pre
    · rw [q1 k hk];exact p.la
    · rw [q2 k hk];exact p.lb
    · rw [q1 k hk,q2 k hk];exact p.ne
  have h2 := two_ok l hr a b hal hbl ha hb hne k s pl
  have w1 := lowsT_ok (frN l a a.length) k s (by omega) pl.sa (by omega) frN_rows
  have w2 := lowsT_ok (frN l b a.length) k s (by omega) pl.sb (by omega) frN_rows
  have eah := ahN_congr (A := frI l a) (A' := rAt (frN l a a.length)) (B := frI l b) (B' := rAt (frN l b a.length)) (k := k) (s := s) (n := a.length) (fun i hi => (q1 i hi).symm) (fun i hi => (q2 i hi).symm) (a.length - k - 1) (by omega)
  rw [eah]
  have rA := frN_rows (l := l) (run := a) (n := a.length) k
  have rB := frN_rows (l := l) (run := b) (n := a.length) k
  clear eah q1 q2 p
  rw [l1] at w1
  rw [l2] at w2
  generalize frN l a a.length = A at *
  generalize frN l b a.length = B at *
  obtain ⟨N,hN⟩ : ∃ N,N = a.length - k := ⟨_,rfl⟩
  rw [← hN] at w1 w2 ⊢
  have lA := lowsL_len (A := rAt A) (k := k) (s := s) (n := N)
  have lB := lowsL_len (A := rAt B) (k := k) (s := s) (n := N)
  have gA := fun i h => lowsL_get (A := rAt A) (k := k) (s := s) (n := N) (i := i) h
  have gB := fun i h => lowsL_get (A := rAt B) (k := k) (s := s) (n := N) (i := i) h
  generalize lowsL (rAt A) k s N = LA at *
  generalize lowsL (rAt B) k s N = LB at *
  obtain ⟨res,hres⟩ : ∃ res,res = ahN (rAt A) (rAt B) k s (N - 1) := ⟨_,rfl⟩
  rw [← hres]
  have sa := pl.sa
  have sb := pl.sb
  have ka := pl.ka
  have kb := pl.kb
  (refine contract_of_awp (L := L56) Try.func56 rfl (by kernel_rfl) (by first|rfl|decide) (by first|rfl|kernel_rfl) ?_;simp only [Try.ntmps56,initEnv,Env.keys,List.map_nil,List.map_cons,List.append_nil,List.cons_append,List.nil_append])
  (repeat (first|(refine sA ?_;try intro KR kR)|(with_reducible refine sD O56 ?_;intro KR kR;simp only [O56,ordl,seval])|(refine sB ?_;intro K hK;simp (disch := omega) only [go_sem,seval];(try ((with_reducible first|refine Gt ?_|refine gopO_f rfl ?_|refine Gv rfl ?_);simp (disch := omega) only [go_sem,seval]));(repeat first|intro (xb : Blk)|intro (xk : Nat)|intro hx|refine pC ?_);refine hK _ ?_;clear K hK)|(refine sE ?_;simp only [go_sem,seval,L56,O56,L108,O108];refine kR _ ?_;clear KR kR)|(simp only [thenE,inB,seval])))
  (refine sB ?_;intro K hK;simp (disch := omega) only [go_sem,seval];(try ((with_reducible refine Gt ?_);simp (disch := omega) only [go_sem,seval]));refine cN ?_;simp (disch := omega) only [go_sem,seval];refine ⟨_,_,ContractH.n (h2),?_⟩;intro r H' hr hk;(try obtain rfl := keys_nil hk);(obtain ⟨b1,b2,rfl⟩ := hr);(try simp (disch := omega) only [AV.flat,AC.flat,AC.flat.flatL,AC.flat.flatLL,go_sem,seval]);(repeat first|intro (xb : Blk)|intro (xk : Nat)|intro hx|refine pC ?_);refine hK _ ?_;clear K hK)
  (repeat (first|(refine sA ?_;try intro KR kR)|(with_reducible refine sD O56 ?_;intro KR kR;simp only [O56,ordl,seval])|(refine sB ?_;intro K hK;simp (disch := omega) only [go_sem,seval];(try ((with_reducible first|refine Gt ?_|refine gopO_f rfl ?_|refine Gv rfl ?_);simp (disch := omega) only [go_sem,seval]));(repeat first|intro (xb : Blk)|intro (xk : Nat)|intro hx|refine pC ?_);refine hK _ ?_;clear K hK)|(refine sE ?_;simp only [go_sem,seval,L56,O56,L108,O108];refine kR _ ?_;clear KR kR)|(simp only [thenE,inB,seval])))
  ((with_reducible refine Ac ?_);intro K hK;simp (disch := omega) only [condK,go_sem,seval];refine hK _ ?_ ?_;all_goals clear K hK;all_goals intro hq;all_goals (try simp only [qF,reduceCtorEq] at hq);all_goals (try (exfalso;first|exact hq|omega)))
  (repeat (first|(refine sA ?_;try intro KR kR)|(with_reducible refine sD O56 ?_;intro KR kR;simp only [O56,ordl,seval])|(refine sB ?_;intro K hK;simp (disch := omega) only [go_sem,seval];(try ((with_reducible first|refine Gt ?_|refine gopO_f rfl ?_|refine Gv rfl ?_);simp (disch := omega) only [go_sem,seval]));(repeat first|intro (xb : Blk)|intro (xk : Nat)|intro hx|refine pC ?_);refine hK _ ?_;clear K hK)|(refine sE ?_;simp only [go_sem,seval,L56,O56,L108,O108];refine kR _ ?_;clear KR kR)|(simp only [thenE,inB,seval])))
  (refine sB ?_;intro K hK;simp (disch := omega) only [go_sem,seval];(try ((with_reducible refine Gt ?_);simp (disch := omega) only [go_sem,seval]));refine cN ?_;simp (disch := omega) only [go_sem,seval];refine ⟨_,_,ContractH.n (w1),?_⟩;intro r H' hr hk;(try obtain rfl := keys_nil hk);(obtain ⟨b3,rfl⟩ := hr);(try simp (disch := omega) only [AV.flat,AC.flat,AC.flat.flatL,AC.flat.flatLL,go_sem,seval]);(repeat first|intro (xb : Blk)|intro (xk : Nat)|intro hx|refine pC ?_);refine hK _ ?_;clear K hK)
  (repeat (first|(refine sA ?_;try intro KR kR)|(with_reducible refine sD O56 ?_;intro KR kR;simp only [O56,ordl,seval])|(refine sB ?_;intro K hK;simp (disch := omega) only [go_sem,seval];(try ((with_reducible first|refine Gt ?_|refine gopO_f rfl ?_|refine Gv rfl ?_);simp (disch := omega) only [go_sem,seval]));(repeat first|intro (xb : Blk)|intro (xk : Nat)|intro hx|refine pC ?_);refine hK _ ?_;clear K hK)|(refine sE ?_;simp only [go_sem,seval,L56,O56,L108,O108];refine kR _ ?_;clear KR kR)|(simp only [thenE,inB,seval])))
  (refine sB ?_;intro K hK;simp (disch := omega) only [go_sem,seval];(try ((with_reducible refine Gt ?_);simp (disch := omega) only [go_sem,seval]));refine cN ?_;simp (disch := omega) only [go_sem,seval];refine ⟨_,_,ContractH.n (w2),?_⟩;intro r H' hr hk;(try obtain rfl := keys_nil hk);(obtain ⟨b4,rfl⟩ := hr);(try simp (disch := omega) only [AV.flat,AC.flat,AC.flat.flatL,AC.flat.flatLL,go_sem,seval]);(repeat first|intro (xb : Blk)|intro (xk : Nat)|intro hx|refine pC ?_);refine hK _ ?_;clear K hK)
  (repeat (first|(refine sA ?_;try intro KR kR)|(with_reducible refine sD O56 ?_;intro KR kR;simp only [O56,ordl,seval])|(refine sB ?_;intro K hK;simp (disch := omega) only [go_sem,seval];(try ((with_reducible first|refine Gt ?_|refine gopO_f rfl ?_|refine Gv rfl ?_);simp (disch := omega) only [go_sem,seval]));(repeat first|intro (xb : Blk)|intro (xk : Nat)|intro hx|refine pC ?_);refine hK _ ?_;clear K hK)|(refine sE ?_;simp only [go_sem,seval,L56,O56,L108,O108];refine kR _ ?_;clear KR kR)|(simp only [thenE,inB,seval])))
  refine awp_loop [9,10,11,12,13,14,15,1033,1037,123000,123100] (fun m S => ∃ (j : Nat),j ≤ N ∧ m = j ∧ (∀ i,j ≤ i → i < N → lowN (rAt A) k s i = lowN (rAt B) k s i) ∧ S = [(9,.c (.ref 123000 [] b1 1 0 A.length)),(10,.c (.ref 123100 [] b2 1 0 B.length)),(11,.c (.im (.int .i64 k))),(12,.c (.im (.int .i64 s))),(13,.c (.ref 1033 [] b3 1 0 LA.length)),(14,.c (.ref 1037 [] b4 1 0 LB.length)),(15,.c (.im (.int .i64 ((j : Int) - 1)))),(1033,.row b3 3 1 (kRows .i64 LA)),(1037,.row b4 3 1 (kRows .i64 LB)),(123000,.row b1 25 1 (rRows A)),(123100,.row b2 25 1 (rRows B))]) N ⟨N,by omega,rfl,fun i h1 h2 => (by omega),?_⟩ ?_
  · rw [← lA]
    rfl
  rintro m S' ⟨j,hj,hmj,hs,rfl⟩
  by_cases h0 : j = 0
  · subst h0
    have e0 : res = cmpS ((rAt A k).getD s 0) ((rAt B k).getD s 0) := by
      rw [hres,ahN_down (j := 1) (Nat.le_refl _) (by omega) (fun i h1 h2 => hs i (by omega) h2)]
      show ahN (rAt A) (rAt B) k s 0 = _
      rw [ahN,ahd,hs 0 (by omega) (by omega),if_neg (by omega),if_neg (by omega)]
    have t1 := tmod_rng ((rAt A k).getD s 0)
    have t2 := tmod_rng ((rAt B k).getD s 0)
    by_cases m1 : Int.tmod ((rAt A k).getD s 0) 2 = Int.tmod ((rAt B k).getD s 0) 2
    · by_cases m2 : (rAt A k).getD s 0 < (rAt B k).getD s 0
      · have er : res = -1 := by rw [e0,cmpS,if_neg (not_not_intro m1),if_pos m2]
        (repeat (first|(refine sA ?_;try intro KR kR)|(with_reducible refine sD O56 ?_;intro KR kR;simp only [O56,ordl,seval])|(refine sB ?_;intro K hK;simp (disch := omega) only [go_sem,seval];(try ((with_reducible first|refine Gt ?_|refine gopO_f rfl ?_|refine Gv rfl ?_);simp (disch := omega) only [go_sem,seval]));(repeat first|intro (xb : Blk)|intro (xk : Nat)|intro hx|refine pC ?_);refine hK _ ?_;clear K hK)|(refine sE ?_;simp only [go_sem,seval,L56,O56,L108,O108];refine kR _ ?_;clear KR kR)|(simp only [thenE,inB,seval])))
        ((with_reducible refine Ac ?_);intro K hK;simp (disch := omega) only [condK,go_sem,seval];refine hK _ ?_ ?_;all_goals clear K hK;all_goals intro hq;all_goals (try simp only [qF,reduceCtorEq] at hq);all_goals (try (exfalso;first|exact hq|omega)))
        (repeat (first|(refine sA ?_;try intro KR kR)|(with_reducible refine sD O56 ?_;intro KR kR;simp only [O56,ordl,seval])|(refine sB ?_;intro K hK;simp (disch := omega) only [go_sem,seval];(try ((with_reducible first|refine Gt ?_|refine gopO_f rfl ?_|refine Gv rfl ?_);simp (disch := omega) only [go_sem,seval]));(repeat first|intro (xb : Blk)|intro (xk : Nat)|intro hx|refine pC ?_);refine hK _ ?_;clear K hK)|(refine sE ?_;simp only [go_sem,seval,L56,O56,L108,O108];refine kR _ ?_;clear KR kR)|(simp only [thenE,inB,seval])))
        ((with_reducible refine Ac ?_);intro K hK;simp (disch := omega) only [condK,go_sem,seval];refine hK _ ?_ ?_;all_goals clear K hK;all_goals intro hq;all_goals (try simp only [qF,reduceCtorEq] at hq);all_goals (try (exfalso;first|exact hq|omega)))
        (repeat (first|(refine sA ?_;try intro KR kR)|(with_reducible refine sD O56 ?_;intro KR kR;simp only [O56,ordl,seval])|(refine sB ?_;intro K hK;simp (disch := omega) only [go_sem,seval];(try ((with_reducible first|refine Gt ?_|refine gopO_f rfl ?_|refine Gv rfl ?_);simp (disch := omega) only [go_sem,seval]));(repeat first|intro (xb : Blk)|intro (xk : Nat)|intro hx|refine pC ?_);refine hK _ ?_;clear K hK)|(refine sE ?_;simp only [go_sem,seval,L56,O56,L108,O108];refine kR _ ?_;clear KR kR)|(simp only [thenE,inB,seval])))
        ((with_reducible refine Ac ?_);intro K hK;simp (disch := omega) only [condK,go_sem,seval];refine hK _ ?_ ?_;all_goals clear K hK;all_goals intro hq;all_goals (try simp only [qF,reduceCtorEq] at hq);all_goals (try (exfalso;first|exact hq|omega)))
        (repeat (first|(refine sA ?_;try intro KR kR)|(with_reducible refine sD O56 ?_;intro KR kR;simp only [O56,ordl,seval])|(refine sB ?_;intro K hK;simp (disch := omega) only [go_sem,seval];(try ((with_reducible first|refine Gt ?_|refine gopO_f rfl ?_|refine Gv rfl ?_);simp (disch := omega) only [go_sem,seval]));(repeat first|intro (xb : Blk)|intro (xk : Nat)|intro hx|refine pC ?_);refine hK _ ?_;clear K hK)|(refine sE ?_;simp only [go_sem,seval,L56,O56,L108,O108];refine kR _ ?_;clear KR kR)|(simp only [thenE,inB,seval])))
        (simp only [retQ,Try.results56];simp (disch := omega) only [resK,resT,resAV,Env.sel,Env.keys,List.map_nil,List.map_cons,List.all_nil,List.all_cons,AV.isS,Bool.not_false,Bool.and_self,Option.map_some,List.length_cons,List.length_nil,Nat.zero_add,Nat.reduceAdd,not_false_eq_true,true_and,and_true,ne_eq,go_sem,seval,ne_eq])
        rw [er]
      · have er : res = 1 := by rw [e0,cmpS,if_neg (not_not_intro m1),if_neg m2]
        (repeat (first|(refine sA ?_;try intro KR kR)|(with_reducible refine sD O56 ?_;intro KR kR;simp only [O56,ordl,seval])|(refine sB ?_;intro K hK;simp (disch := omega) only [go_sem,seval];(try ((with_reducible first|refine Gt ?_|refine gopO_f rfl ?_|refine Gv rfl ?_);simp (disch := omega) only [go_sem,seval]));(repeat first|intro (xb : Blk)|intro (xk : Nat)|intro hx|refine pC ?_);refine hK _ ?_;clear K hK)|(refine sE ?_;simp only [go_sem,seval,L56,O56,L108,O108];refine kR _ ?_;clear KR kR)|(simp only [thenE,inB,seval])))
        ((with_reducible refine Ac ?_);intro K hK;simp (disch := omega) only [condK,go_sem,seval];refine hK _ ?_ ?_;all_goals clear K hK;all_goals intro hq;all_goals (try simp only [qF,reduceCtorEq] at hq);all_goals (try (exfalso;first|exact hq|omega)))
        (repeat (first|(refine sA ?_;try intro KR kR)|(with_reducible refine sD O56 ?_;intro KR kR;simp only [O56,ordl,seval])|(refine sB ?_;intro K hK;simp (disch := omega) only [go_sem,seval];(try ((with_reducible first|refine Gt ?_|refine gopO_f rfl ?_|refine Gv rfl ?_);simp (disch := omega) only [go_sem,seval]));(repeat first|intro (xb : Blk)|intro (xk : Nat)|intro hx|refine pC ?_);refine hK _ ?_;clear K hK)|(refine sE ?_;simp only [go_sem,seval,L56,O56,L108,O108];refine kR _ ?_;clear KR kR)|(simp only [thenE,inB,seval])))
        ((with_reducible refine Ac ?_);intro K hK;simp (disch := omega) only [condK,go_sem,seval];refine hK _ ?_ ?_;all_goals clear K hK;all_goals intro hq;all_goals (try simp only [qF,reduceCtorEq] at hq);all_goals (try (exfalso;first|exact hq|omega)))
        (repeat (first|(refine sA ?_;try intro KR kR)|(with_reducible refine sD O56 ?_;intro KR kR;simp only [O56,ordl,seval])|(refine sB ?_;intro K hK;simp (disch := omega) only [go_sem,seval];(try ((with_reducible first|refine Gt ?_|refine gopO_f rfl ?_|refine Gv rfl ?_);simp (disch := omega) only [go_sem,seval]));(repeat first|intro (xb : Blk)|intro (xk : Nat)|intro hx|refine pC ?_);refine hK _ ?_;clear K hK)|(refine sE ?_;simp only [go_sem,seval,L56,O56,L108,O108];refine kR _ ?_;clear KR kR)|(simp only [thenE,inB,seval])))
        ((with_reducible refine Ac ?_);intro K hK;simp (disch := omega) only [condK,go_sem,seval];refine hK _ ?_ ?_;all_goals clear K hK;all_goals intro hq;all_goals (try simp only [qF,reduceCtorEq] at hq);all_goals (try (exfalso;first|exact hq|omega)))
        (repeat (first|(refine sA ?_;try intro KR kR)|(with_reducible refine sD O56 ?_;intro KR kR;simp only [O56,ordl,seval])|(refine sB ?_;intro K hK;simp (disch := omega) only [go_sem,seval];(try ((with_reducible first|refine Gt ?_|refine gopO_f rfl ?_|refine Gv rfl ?_);simp (disch := omega) only [go_sem,seval]));(repeat first|intro (xb : Blk)|intro (xk : Nat)|intro hx|refine pC ?_);refine hK _ ?_;clear K hK)|(refine sE ?_;simp only [go_sem,seval,L56,O56,L108,O108];refine kR _ ?_;clear KR kR)|(simp only [thenE,inB,seval])))
        (simp only [retQ,Try.results56];simp (disch := omega) only [resK,resT,resAV,Env.sel,Env.keys,List.map_nil,List.map_cons,List.all_nil,List.all_cons,AV.isS,Bool.not_false,Bool.and_self,Option.map_some,List.length_cons,List.length_nil,Nat.zero_add,Nat.reduceAdd,not_false_eq_true,true_and,and_true,ne_eq,go_sem,seval,ne_eq])
        rw [er]
    · have er : res = Int.tmod ((rAt A k).getD s 0) 2 - Int.tmod ((rAt B k).getD s 0) 2 := by rw [e0,cmpS,if_pos m1]
      (repeat (first|(refine sA ?_;try intro KR kR)|(with_reducible refine sD O56 ?_;intro KR kR;simp only [O56,ordl,seval])|(refine sB ?_;intro K hK;simp (disch := omega) only [go_sem,seval];(try ((with_reducible first|refine Gt ?_|refine gopO_f rfl ?_|refine Gv rfl ?_);simp (disch := omega) only [go_sem,seval]));(repeat first|intro (xb : Blk)|intro (xk : Nat)|intro hx|refine pC ?_);refine hK _ ?_;clear K hK)|(refine sE ?_;simp only [go_sem,seval,L56,O56,L108,O108];refine kR _ ?_;clear KR kR)|(simp only [thenE,inB,seval])))
      ((with_reducible refine Ac ?_);intro K hK;simp (disch := omega) only [condK,go_sem,seval];refine hK _ ?_ ?_;all_goals clear K hK;all_goals intro hq;all_goals (try simp only [qF,reduceCtorEq] at hq);all_goals (try (exfalso;first|exact hq|omega)))
      (repeat (first|(refine sA ?_;try intro KR kR)|(with_reducible refine sD O56 ?_;intro KR kR;simp only [O56,ordl,seval])|(refine sB ?_;intro K hK;simp (disch := omega) only [go_sem,seval];(try ((with_reducible first|refine Gt ?_|refine gopO_f rfl ?_|refine Gv rfl ?_);simp (disch := omega) only [go_sem,seval]));(repeat first|intro (xb : Blk)|intro (xk : Nat)|intro hx|refine pC ?_);refine hK _ ?_;clear K hK)|(refine sE ?_;simp only [go_sem,seval,L56,O56,L108,O108];refine kR _ ?_;clear KR kR)|(simp only [thenE,inB,seval])))
      ((with_reducible refine Ac ?_);intro K hK;simp (disch := omega) only [condK,go_sem,seval];refine hK _ ?_ ?_;all_goals clear K hK;all_goals intro hq;all_goals (try simp only [qF,reduceCtorEq] at hq);all_goals (try (exfalso;first|exact hq|omega)))
      (repeat (first|(refine sA ?_;try intro KR kR)|(with_reducible refine sD O56 ?_;intro KR kR;simp only [O56,ordl,seval])|(refine sB ?_;intro K hK;simp (disch := omega) only [go_sem,seval];(try ((with_reducible first|refine Gt ?_|refine gopO_f rfl ?_|refine Gv rfl ?_);simp (disch := omega) only [go_sem,seval]));(repeat first|intro (xb : Blk)|intro (xk : Nat)|intro hx|refine pC ?_);refine hK _ ?_;clear K hK)|(refine sE ?_;simp only [go_sem,seval,L56,O56,L108,O108];refine kR _ ?_;clear KR kR)|(simp only [thenE,inB,seval])))
      (simp only [retQ,Try.results56];simp (disch := omega) only [resK,resT,resAV,Env.sel,Env.keys,List.map_nil,List.map_cons,List.all_nil,List.all_cons,AV.isS,Bool.not_false,Bool.and_self,Option.map_some,List.length_cons,List.length_nil,Nat.zero_add,Nat.reduceAdd,not_false_eq_true,true_and,and_true,ne_eq,go_sem,seval,ne_eq])
      rw [er]
  · obtain ⟨i,rfl⟩ : ∃ i,j = i + 1 := ⟨j - 1,by omega⟩
    have ea := gA i (by omega)
    have eb := gB i (by omega)
    have ed : res = ahd (lowN (rAt A) k s i) (lowN (rAt B) k s i) (if i = 0 then cmpS ((rAt A k).getD s 0) ((rAt B k).getD s 0) else ahN (rAt A) (rAt B) k s (i - 1)) := by
      rw [hres,ahN_down (j := i + 1) (by omega) (by omega) hs]
      cases i with
      | zero => rfl
      | succ i => rfl
    rw [show (((i + 1 : Nat) : Int) - 1) = (i : Int) by omega]
    by_cases c1 : LB.getD i 0 < LA.getD i 0
    · have er : res = -1 := by rw [ed,ahd,if_pos (by omega)]
      (repeat (first|(refine sA ?_;try intro KR kR)|(with_reducible refine sD O56 ?_;intro KR kR;simp only [O56,ordl,seval])|(refine sB ?_;intro K hK;simp (disch := omega) only [go_sem,seval];(try ((with_reducible first|refine Gt ?_|refine gopO_f rfl ?_|refine Gv rfl ?_);simp (disch := omega) only [go_sem,seval]));(repeat first|intro (xb : Blk)|intro (xk : Nat)|intro hx|refine pC ?_);refine hK _ ?_;clear K hK)|(refine sE ?_;simp only [go_sem,seval,L56,O56,L108,O108];refine kR _ ?_;clear KR kR)|(simp only [thenE,inB,seval])))
      ((with_reducible refine Ac ?_);intro K hK;simp (disch := omega) only [condK,go_sem,seval];refine hK _ ?_ ?_;all_goals clear K hK;all_goals intro hq;all_goals (try simp only [qF,reduceCtorEq] at hq);all_goals (try (exfalso;first|exact hq|omega)))
      (repeat (first|(refine sA ?_;try intro KR kR)|(with_reducible refine sD O56 ?_;intro KR kR;simp only [O56,ordl,seval])|(refine sB ?_;intro K hK;simp (disch := omega) only [go_sem,seval];(try ((with_reducible first|refine Gt ?_|refine gopO_f rfl ?_|refine Gv rfl ?_);simp (disch := omega) only [go_sem,seval]));(repeat first|intro (xb : Blk)|intro (xk : Nat)|intro hx|refine pC ?_);refine hK _ ?_;clear K hK)|(refine sE ?_;simp only [go_sem,seval,L56,O56,L108,O108];refine kR _ ?_;clear KR kR)|(simp only [thenE,inB,seval])))
      ((with_reducible refine Ac ?_);intro K hK;simp (disch := omega) only [condK,go_sem,seval];refine hK _ ?_ ?_;all_goals clear K hK;all_goals intro hq;all_goals (try simp only [qF,reduceCtorEq] at hq);all_goals (try (exfalso;first|exact hq|omega)))
      (repeat (first|(refine sA ?_;try intro KR kR)|(with_reducible refine sD O56 ?_;intro KR kR;simp only [O56,ordl,seval])|(refine sB ?_;intro K hK;simp (disch := omega) only [go_sem,seval];(try ((with_reducible first|refine Gt ?_|refine gopO_f rfl ?_|refine Gv rfl ?_);simp (disch := omega) only [go_sem,seval]));(repeat first|intro (xb : Blk)|intro (xk : Nat)|intro hx|refine pC ?_);refine hK _ ?_;clear K hK)|(refine sE ?_;simp only [go_sem,seval,L56,O56,L108,O108];refine kR _ ?_;clear KR kR)|(simp only [thenE,inB,seval])))
      (simp only [retQ,Try.results56];simp (disch := omega) only [resK,resT,resAV,Env.sel,Env.keys,List.map_nil,List.map_cons,List.all_nil,List.all_cons,AV.isS,Bool.not_false,Bool.and_self,Option.map_some,List.length_cons,List.length_nil,Nat.zero_add,Nat.reduceAdd,not_false_eq_true,true_and,and_true,ne_eq,go_sem,seval,ne_eq])
      rw [er]
    · by_cases c2 : LA.getD i 0 < LB.getD i 0
      · have er : res = 1 := by rw [ed,ahd,if_neg (by omega),if_pos (by omega)]
        (repeat (first|(refine sA ?_;try intro KR kR)|(with_reducible refine sD O56 ?_;intro KR kR;simp only [O56,ordl,seval])|(refine sB ?_;intro K hK;simp (disch := omega) only [go_sem,seval];(try ((with_reducible first|refine Gt ?_|refine gopO_f rfl ?_|refine Gv rfl ?_);simp (disch := omega) only [go_sem,seval]));(repeat first|intro (xb : Blk)|intro (xk : Nat)|intro hx|refine pC ?_);refine hK _ ?_;clear K hK)|(refine sE ?_;simp only [go_sem,seval,L56,O56,L108,O108];refine kR _ ?_;clear KR kR)|(simp only [thenE,inB,seval])))
        ((with_reducible refine Ac ?_);intro K hK;simp (disch := omega) only [condK,go_sem,seval];refine hK _ ?_ ?_;all_goals clear K hK;all_goals intro hq;all_goals (try simp only [qF,reduceCtorEq] at hq);all_goals (try (exfalso;first|exact hq|omega)))
        (repeat (first|(refine sA ?_;try intro KR kR)|(with_reducible refine sD O56 ?_;intro KR kR;simp only [O56,ordl,seval])|(refine sB ?_;intro K hK;simp (disch := omega) only [go_sem,seval];(try ((with_reducible first|refine Gt ?_|refine gopO_f rfl ?_|refine Gv rfl ?_);simp (disch := omega) only [go_sem,seval]));(repeat first|intro (xb : Blk)|intro (xk : Nat)|intro hx|refine pC ?_);refine hK _ ?_;clear K hK)|(refine sE ?_;simp only [go_sem,seval,L56,O56,L108,O108];refine kR _ ?_;clear KR kR)|(simp only [thenE,inB,seval])))
        ((with_reducible refine Ac ?_);intro K hK;simp (disch := omega) only [condK,go_sem,seval];refine hK _ ?_ ?_;all_goals clear K hK;all_goals intro hq;all_goals (try simp only [qF,reduceCtorEq] at hq);all_goals (try (exfalso;first|exact hq|omega)))
        (repeat (first|(refine sA ?_;try intro KR kR)|(with_reducible refine sD O56 ?_;intro KR kR;simp only [O56,ordl,seval])|(refine sB ?_;intro K hK;simp (disch := omega) only [go_sem,seval];(try ((with_reducible first|refine Gt ?_|refine gopO_f rfl ?_|refine Gv rfl ?_);simp (disch := omega) only [go_sem,seval]));(repeat first|intro (xb : Blk)|intro (xk : Nat)|intro hx|refine pC ?_);refine hK _ ?_;clear K hK)|(refine sE ?_;simp only [go_sem,seval,L56,O56,L108,O108];refine kR _ ?_;clear KR kR)|(simp only [thenE,inB,seval])))
        ((with_reducible refine Ac ?_);intro K hK;simp (disch := omega) only [condK,go_sem,seval];refine hK _ ?_ ?_;all_goals clear K hK;all_goals intro hq;all_goals (try simp only [qF,reduceCtorEq] at hq);all_goals (try (exfalso;first|exact hq|omega)))
        (repeat (first|(refine sA ?_;try intro KR kR)|(with_reducible refine sD O56 ?_;intro KR kR;simp only [O56,ordl,seval])|(refine sB ?_;intro K hK;simp (disch := omega) only [go_sem,seval];(try ((with_reducible first|refine Gt ?_|refine gopO_f rfl ?_|refine Gv rfl ?_);simp (disch := omega) only [go_sem,seval]));(repeat first|intro (xb : Blk)|intro (xk : Nat)|intro hx|refine pC ?_);refine hK _ ?_;clear K hK)|(refine sE ?_;simp only [go_sem,seval,L56,O56,L108,O108];refine kR _ ?_;clear KR kR)|(simp only [thenE,inB,seval])))
        (simp only [retQ,Try.results56];simp (disch := omega) only [resK,resT,resAV,Env.sel,Env.keys,List.map_nil,List.map_cons,List.all_nil,List.all_cons,AV.isS,Bool.not_false,Bool.and_self,Option.map_some,List.length_cons,List.length_nil,Nat.zero_add,Nat.reduceAdd,not_false_eq_true,true_and,and_true,ne_eq,go_sem,seval,ne_eq])
        rw [er]
      · (repeat (first|(refine sA ?_;try intro KR kR)|(with_reducible refine sD O56 ?_;intro KR kR;simp only [O56,ordl,seval])|(refine sB ?_;intro K hK;simp (disch := omega) only [go_sem,seval];(try ((with_reducible first|refine Gt ?_|refine gopO_f rfl ?_|refine Gv rfl ?_);simp (disch := omega) only [go_sem,seval]));(repeat first|intro (xb : Blk)|intro (xk : Nat)|intro hx|refine pC ?_);refine hK _ ?_;clear K hK)|(refine sE ?_;simp only [go_sem,seval,L56,O56,L108,O108];refine kR _ ?_;clear KR kR)|(simp only [thenE,inB,seval])))
        ((with_reducible refine Ac ?_);intro K hK;simp (disch := omega) only [condK,go_sem,seval];refine hK _ ?_ ?_;all_goals clear K hK;all_goals intro hq;all_goals (try simp only [qF,reduceCtorEq] at hq);all_goals (try (exfalso;first|exact hq|omega)))
        (repeat (first|(refine sA ?_;try intro KR kR)|(with_reducible refine sD O56 ?_;intro KR kR;simp only [O56,ordl,seval])|(refine sB ?_;intro K hK;simp (disch := omega) only [go_sem,seval];(try ((with_reducible first|refine Gt ?_|refine gopO_f rfl ?_|refine Gv rfl ?_);simp (disch := omega) only [go_sem,seval]));(repeat first|intro (xb : Blk)|intro (xk : Nat)|intro hx|refine pC ?_);refine hK _ ?_;clear K hK)|(refine sE ?_;simp only [go_sem,seval,L56,O56,L108,O108];refine kR _ ?_;clear KR kR)|(simp only [thenE,inB,seval])))
        ((with_reducible refine Ac ?_);intro K hK;simp (disch := omega) only [condK,go_sem,seval];refine hK _ ?_ ?_;all_goals clear K hK;all_goals intro hq;all_goals (try simp only [qF,reduceCtorEq] at hq);all_goals (try (exfalso;first|exact hq|omega)))
        (repeat (first|(refine sA ?_;try intro KR kR)|(with_reducible refine sD O56 ?_;intro KR kR;simp only [O56,ordl,seval])|(refine sB ?_;intro K hK;simp (disch := omega) only [go_sem,seval];(try ((with_reducible first|refine Gt ?_|refine gopO_f rfl ?_|refine Gv rfl ?_);simp (disch := omega) only [go_sem,seval]));(repeat first|intro (xb : Blk)|intro (xk : Nat)|intro hx|refine pC ?_);refine hK _ ?_;clear K hK)|(refine sE ?_;simp only [go_sem,seval,L56,O56,L108,O108];refine kR _ ?_;clear KR kR)|(simp only [thenE,inB,seval])))
        ((with_reducible refine Ac ?_);intro K hK;simp (disch := omega) only [condK,go_sem,seval];refine hK _ ?_ ?_;all_goals clear K hK;all_goals intro hq;all_goals (try simp only [qF,reduceCtorEq] at hq);all_goals (try (exfalso;first|exact hq|omega)))
        (repeat (first|(refine sA ?_;try intro KR kR)|(with_reducible refine sD O56 ?_;intro KR kR;simp only [O56,ordl,seval])|(refine sB ?_;intro K hK;simp (disch := omega) only [go_sem,seval];(try ((with_reducible first|refine Gt ?_|refine gopO_f rfl ?_|refine Gv rfl ?_);simp (disch := omega) only [go_sem,seval]));(repeat first|intro (xb : Blk)|intro (xk : Nat)|intro hx|refine pC ?_);refine hK _ ?_;clear K hK)|(refine sE ?_;simp only [go_sem,seval,L56,O56,L108,O108];refine kR _ ?_;clear KR kR)|(simp only [thenE,inB,seval])))
        refine gh_no ⟨i,by omega,i,by omega,rfl,fun q h1 h2 => ?_,?_⟩
        · by_cases e : q = i
          · subst e;omega
          · exact hs q (by omega) h2
        · ((try simp (disch := omega) only [List.cons.injEq,Prod.mk.injEq,AV.c.injEq,AV.agg.injEq,AV.opt.injEq,AV.tup.injEq,AV.row.injEq,AV.box.injEq,AV.mapo.injEq,AC.im.injEq,AC.sl.injEq,AC.adr.injEq,AC.ref.injEq,AC.ptr.injEq,AC.own.injEq,AC.fn.injEq,Value.int.injEq,Value.bool.injEq,Value.string.injEq,heq_eq_eq,go_sem,seval]);(try (repeat' refine And.intro ?_ ?_));all_goals (first|rfl|omega|skip))
end Go.Proofs.Ytllemobnfpljfaa
