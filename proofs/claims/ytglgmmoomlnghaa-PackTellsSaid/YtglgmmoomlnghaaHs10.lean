/-
  THE HEAP SEMANTICS, part 10: append, copy, maps, bytes of a string do on the machine what part 7 says.
-/
import Derived.Test.YtglgmmoomlnghaaHs9
namespace Go.Hs
open Go Go.RowKit

section
variable {P : Program} {n : Nat} {p0 F : Nat → Prop} {w0 : World} {S : Env} {a : Act} {w : World} {p : Nat → Prop} {ow : Nat → List Nat} {Q : Exit → Act → World → Prop}

theorem rel_rowref {b : Blk} {e sz g m : Nat} {es : List (List AC)} (hR : Rel n p0 F w0 (S.set g (.row b e sz es)) a w p ow) (hl : es.length = m) (g' : Nat) (q : List (Nat × Nat)) : RdC w p (sliceV b m) (.ref g' q b sz 0 m) := by
  have hob : RdOb w p ⟨b,e,sz,es⟩ (ow g) := hR.get (d := g) (v := .row b e sz es) (by simp [Env.set,Env.get])
  obtain ⟨_,_,q1,_⟩ := hob
  simp only [hl] at q1
  exact rdC_whole q1 _ _

theorem append_sound (hR : Rel n p0 F w0 S a w p ow) {o : Oper} {c : Call} {T d : Nat} {s x : Operand} (ho : o.op = .call c) (hc : c.callee = .builtin .append) (ha : c.args.toList = [s,x]) (ht : c.argTypes.toList = [T,T]) (hd : o.dst = some d) {K : Env → Prop} (h : appendK P n S T s x d K) {next : Act → World → Prop} (hn : Goes n p0 F w0 K next) : o.wp P a w next Q := by
  unfold appendK at h
  split at h
  · rename_i e hu
    split at h
    · rename_i sz by' zs hi
      obtain ⟨i,z,g1,g2,g3,g4,g5,g6⟩ := eInfo_ok hi
      obtain ⟨hpos,hdn,h⟩ := h
      obtain ⟨vx,h1,hvx⟩ := evK_sound hR h
      clear h
      obtain ⟨S1,ys,O2,h2,hR1,hs1,hF1,hsrc,_⟩ := srcK_sound hR (hvx rfl) h1
      clear h1
      obtain ⟨vs,h3,hvs⟩ := evK_sound hR1 h2
      clear h2
      replace hvs := hvs rfl
      split at h3
      · obtain ⟨hlim,hby,hK⟩ := h3
        have es0 : a.eval s = sliceV none 0 := RdS_nil hvs
        obtain ⟨b2,w',ow',hrun,hb2,hR2⟩ := append_core hR1 hF1 hu g1 g2 g3 g4 g5 hpos (ty := o.type) (b := none) (es := []) (xs := []) (O1 := []) (u := a.eval x) ⟨by simp,rfl⟩ (by simp) .nil hsrc (by simpa [blks] using hF1.nod) (by simp [blks]) (by simpa using hlim) (by simpa using hby) (nm d)
        refine wp_value (exec_append ho hc ha ht a.eval (by rw [es0];exact hrun)) ?_
        rw [hd]
        have hlen : ([] : List (List AC)).length + ys.length = ys.length := by simp
        rw [hlen] at hrun ⊢
        have hR2' : Rel n p0 F w0 (S1.set (nm d) (.row b2 e sz ys)) a w' p ow' := hR2
        exact hn _ _ _ p _ (hK b2 (by simpa using hb2)) (rel_set hR2' hdn (rel_rowref hR2' rfl _ _))
      · rename_i g q b sz' lo m
        obtain ⟨rfl,rfl,h63,hby,h3⟩ := h3
        have hvs' : RdC w p (a.eval s) (.ref g q b sz' 0 m) := hvs
        have hval : a.eval s = sliceV b m := sliceV_ref hvs'
        split at h3
        · split at h3
          · rename_i b' e' sz'' es hg
            obtain ⟨rfl,rfl,rfl,hm,hK⟩ := h3
            obtain ⟨O',hO',hsub⟩ := (show RdOb w p ⟨b',e',sz'',es⟩ (ow g) from hR1.get hg).take (n := m) hm
            obtain ⟨xs,O1,k1,k2,k3,rfl⟩ := hO'
            have hF2 := free_take hR1 hF1 hg
            have hl : (es.take m).length = m := by simp;omega
            simp only at k1 k2 k3
            have hnod : (blks b' ++ O1 ++ O2).Nodup := by
              have h1 := hF2.nod
              rw [List.nodup_append] at h1 ⊢
              refine ⟨h1.2.1.sublist hsub,h1.1,fun x hx y hy he => ?_⟩
              exact h1.2.2 y hy x (hsub.subset hx) he.symm
            obtain ⟨b2,w',ow',hrun,hb2,hR2⟩ := append_core (rel_drop hR1 g) hF2 hu g1 g2 g3 g4 g5 hpos (ty := o.type) (es := es.take m) (u := a.eval x) k1 k2 k3 hsrc hnod (by
              intro x hx
              rcases List.mem_append.1 hx with hx|hx
              · exact List.mem_append_right _ (hsub.subset hx)
              · exact List.mem_append_left _ hx) (by rw [hl];exact h63) (by rw [hl];exact hby) g
            rw [hl] at hrun
            refine wp_value (exec_append ho hc ha ht a.eval (by rw [hval];exact hrun)) ?_
            rw [hd]
            have hss : ∀ v,(S1.drop g).set g v = S1.set g v := by
              intro v
              have hdd : ∀ (T : Env),(T.drop g).drop g = T.drop g := by
                intro T
                induction T with
                | nil => rfl
                | cons x r ih =>
                  obtain ⟨k,u⟩ := x
                  simp only [Env.drop]
                  split
                  · exact ih
                  · rename_i hk;simp only [Env.drop,hk,if_false,ih]
              simp only [Env.set,hdd]
            rw [hss] at hR2
            have hl2 : (es.take m ++ ys).length = m + ys.length := by rw [List.length_append,hl]
            exact hn _ _ _ p _ (hK b2 hb2) (rel_set hR2 hdn (rel_rowref hR2 hl2 _ _))
          · exact h3.elim
        · rename_i x1 r1
          split at h3
          · rename_i q0 ii jj hlq
            split at h3
            · rename_i o0 ho0
              split at h3
              · rename_i b' e' sz'' es hcell
                obtain ⟨rfl,rfl,rfl,hm,hK⟩ := h3
                obtain ⟨Oq,pre,post,eow,hOq,hupd⟩ := rel_updAt hR1 hF1 ho0
                obtain ⟨v0,o00,p1,p2,p3⟩ := obAt_ob ho0
                have hmem := Env.mem_of_get p1
                obtain ⟨xs0,O0,c1,c2,c3,rfl⟩ := hOq
                obtain ⟨ee,l1,l2⟩ := getC_some hcell (by simp)
                have hel := c2 ee (List.mem_of_getElem? l1)
                have hjj : jj < o0.sz := by have := (List.getElem?_eq_some_iff.1 l2).1;omega
                have hmm : o0.es.flatten[ii * o0.sz + jj]? = some (.own b' e' sz'' es) := by rw [flatten_get c2 ii ee jj l1 hjj];exact l2
                obtain ⟨ys0,A,On,C,hv0,n1,n2,n3,n4,n5,n6⟩ := c3.getOwn hmm
                have hee : o0.es.getD ii [] = ee := by rw [List.getD_eq_getElem?_getD,l1];rfl
                -- the cell is dead
                have hvone : (sliceV b' es.length).oneCell' = true := by cases b' <;> rfl
                have hdead : RdO w p xs0 (o0.es.set ii (ee.set jj .dead)).flatten (A ++ C) := by
                  rw [flatten_set c2 ii ee jj _ l1 hjj,List.set_eq_take_append_cons_drop,if_pos (List.getElem?_eq_some_iff.1 hmm).1]
                  have hvs0 : xs0 = xs0.take (ii * o0.sz + jj) ++ (sliceV b' es.length :: xs0.drop (ii * o0.sz + jj + 1)) := by
                    conv => lhs;rw [← List.take_append_drop (ii * o0.sz + jj) xs0]
                    congr 1
                    have hlt := (List.getElem?_eq_some_iff.1 hv0).1
                    rw [List.drop_eq_getElem_cons hlt,(List.getElem?_eq_some_iff.1 hv0).2]
                  rw [hvs0]
                  exact n5.append (.per (.dead _ hvone) n6)
                have hob' : RdOb w p { o0 with es := o0.es.set ii (ee.set jj .dead) } (blks o0.b ++ (A ++ C)) := by
                  refine ⟨xs0,A ++ C,by simpa using c1,?_,hdead,rfl⟩
                  intro x hx
                  rcases List.mem_or_eq_of_mem_set hx with hx|hx
                  · exact c2 x hx
                  · rw [hx,List.length_set];exact hel
                have hnodg := hR1.nod _ _ hmem
                rw [eow,n4] at hnodg
                have hR2 := hupd w _ _ (Chg.refl _ _) (by simp) hob' (by
                  have h1 := (List.nodup_append.1 (List.nodup_append.1 hnodg).1).2.1
                  refine h1.sublist ?_
                  refine (List.Sublist.refl _).append ?_
                  rw [List.append_assoc]
                  exact (List.Sublist.refl _).append (List.sublist_append_right _ _)) (by
                  intro b hb
                  have : b ∈ blks o0.b ++ O0 := by
                    rw [n4]
                    simp only [List.mem_append] at hb ⊢
                    rcases hb with hb|hb|hb
                    · exact .inl hb
                    · exact .inr (.inl (.inl hb))
                    · exact .inr (.inr hb)
                  exact ⟨.inl this,(hR1.fresh _ _ hmem b (by rw [eow];exact List.mem_append_left _ (List.mem_append_right _ this))).1⟩)
                rw [← hee] at hR2
                -- what was there is free
                have hFn : Free F w0 (S1.updAt g q0 (o0.es.set ii ((o0.es.getD ii []).set jj .dead))) w p (updF ow g (pre ++ (blks o0.b ++ (A ++ C)) ++ post)) (O2 ++ (blks b' ++ On)) := by
                  have hin : ∀ b ∈ blks b' ++ On,b ∈ ow g := fun b hb => by
                    rw [eow,n4]
                    simp only [List.mem_append] at hb ⊢
                    exact .inl (.inr (.inr (.inl (.inr hb))))
                  refine ⟨?_,?_,?_⟩
                  · rw [List.nodup_append]
                    refine ⟨hF1.nod,?_,fun x hx y hy he => ?_⟩
                    · refine hnodg.sublist ?_
                      refine List.Sublist.trans ?_ (List.sublist_append_left _ _)
                      refine List.Sublist.trans ?_ (List.sublist_append_right _ _)
                      refine List.Sublist.trans ?_ (List.sublist_append_right _ _)
                      refine List.Sublist.trans ?_ (List.sublist_append_left _ _)
                      exact List.sublist_append_right _ _
                    · subst he
                      exact hF1.apart _ _ hmem x (hin x hy) hx
                  · intro b hb
                    rcases List.mem_append.1 hb with hb|hb
                    · exact hF1.fresh b hb
                    · exact hR1.fresh _ _ hmem b (hin b hb)
                  · intro d' v' hd' b hb hb'
                    have hmd : d' = g ∨ (d' ≠ g ∧ (d',v') ∈ S1) := by
                      unfold Env.updAt at hd'
                      rw [p1] at hd'
                      rcases Env.mem_upd hd' with ⟨h,_⟩|⟨h1,h2⟩
                      · exact .inl h
                      · exact .inr ⟨h2,h1⟩
                    rcases hmd with rfl|⟨hne,hmd⟩
                    · simp only [updF,if_true] at hb
                      rcases List.mem_append.1 hb' with hb'|hb'
                      · refine hF1.apart _ _ hmem b ?_ hb'
                        rw [eow,n4]
                        simp only [List.mem_append] at hb ⊢
                        rcases hb with (hb|hb|hb|hb)|hb
                        · exact .inl (.inl hb)
                        · exact .inl (.inr (.inl hb))
                        · exact .inl (.inr (.inr (.inl (.inl hb))))
                        · exact .inl (.inr (.inr (.inr hb)))
                        · exact .inr hb
                      · simp only [List.nodup_append] at hnodg
                        simp only [List.mem_append] at hb hb'
                        obtain ⟨⟨_,⟨_,⟨⟨_,_,q3⟩,_,q4⟩,q2⟩,q1⟩,_,q0'⟩ := hnodg
                        rcases hb with (hb|hb|hb|hb)|hb
                        · exact q1 b hb b (List.mem_append_right _ (List.mem_append_left _ (List.mem_append_right _ (List.mem_append.2 hb')))) rfl
                        · exact q2 b hb b (List.mem_append_left _ (List.mem_append_right _ (List.mem_append.2 hb'))) rfl
                        · exact q3 b hb b (List.mem_append.2 hb') rfl
                        · exact q4 b (List.mem_append_right _ (List.mem_append.2 hb')) b hb rfl
                        · exact q0' b (List.mem_append_right _ (List.mem_append_right _ (List.mem_append_left _ (List.mem_append_right _ (List.mem_append.2 hb'))))) b hb rfl
                    · simp only [updF,hne,if_false] at hb
                      rcases List.mem_append.1 hb' with hb'|hb'
                      · exact hF1.apart _ _ hmd b hb hb'
                      · exact hR1.sep _ _ _ _ b hmd hmem hne hb (hin b hb')
                obtain ⟨O',hO',hsub⟩ := (show RdOb w p ⟨b',e',sz'',es⟩ (blks b' ++ On) from ⟨ys0,On,n1,n2,n3,rfl⟩).take (n := m) hm
                obtain ⟨xs,O1,k1,k2,k3,rfl⟩ := hO'
                simp only at k1 k2 k3
                have hl : (es.take m).length = m := by simp;omega
                have hnod : (blks b' ++ O1 ++ O2).Nodup := by
                  have h1 := hFn.nod
                  rw [List.nodup_append] at h1 ⊢
                  refine ⟨h1.2.1.sublist hsub,h1.1,fun x hx y hy he => ?_⟩
                  exact h1.2.2 y hy x (hsub.subset hx) he.symm
                obtain ⟨b2,w',ow',hrun,hb2,hR3⟩ := append_core hR2 hFn hu g1 g2 g3 g4 g5 hpos (ty := o.type) (es := es.take m) (u := a.eval x) k1 k2 k3 hsrc hnod (by
                  intro x hx
                  rcases List.mem_append.1 hx with hx|hx
                  · exact List.mem_append_right _ (hsub.subset hx)
                  · exact List.mem_append_left _ hx) (by rw [hl];exact h63) (by rw [hl];exact hby) (nm d)
                rw [hl] at hrun
                refine wp_value (exec_append ho hc ha ht a.eval (by rw [hval];exact hrun)) ?_
                rw [hd]
                have hl2 : (es.take m ++ ys).length = m + ys.length := by rw [List.length_append,hl]
                exact hn _ _ _ p _ (hK b2 hb2) (rel_set hR3 hdn (rel_rowref hR3 hl2 _ _))
              · exact h3.elim
            · exact h3.elim
          · exact h3.elim
      · exact h3.elim
    · exact h.elim
  · exact h.elim

theorem exec_copy {o : Oper} {c : Call} {x y : Operand} {t1 t2 : TypeId} (ho : o.op = .call c) (hc : c.callee = .builtin .copy) (ha : c.args.toList = [x,y]) (ht : c.argTypes.toList = [t1,t2]) (ρ : Operand → Value) {v : Value} {w' : World} (h : (Builtin.copy_ #[t1,t2] o.type #[ρ x,ρ y]).run P w = .ok v w') :
    (execOp ρ o).run P w = .ok (.value v) w' := by
  simp [execOp,ho,resolve,invoke,builtin,hc,toList_two ha,toList_two ht,h]

theorem copy_sound (hR : Rel n p0 F w0 S a w p ow) {o : Oper} {c : Call} {T T2 d : Nat} {s x : Operand} (ho : o.op = .call c) (hc : c.callee = .builtin .copy) (ha : c.args.toList = [s,x]) (ht : c.argTypes.toList = [T,T2]) (hd : o.dst = some d) {K : Env → Prop} (h : copyK P n S T s x d K) {next : Act → World → Prop} (hn : Goes n p0 F w0 K next) : o.wp P a w next Q := by
  unfold copyK at h
  split at h
  · rename_i e hu
    split at h
    · rename_i sz hsz
      obtain ⟨hdn,h⟩ := h
      obtain ⟨vx,h1,hvx⟩ := evK_sound hR h
      clear h
      obtain ⟨S1,ys,O2,⟨hper,h2⟩,hR1,hs1,hF1,hsrc,hO2⟩ := srcK_sound hR (hvx rfl) h1
      clear h1
      have hO2 := hO2 hper
      subst hO2
      obtain ⟨vs,h3,hvs⟩ := evK_sound hR1 h2
      clear h2
      replace hvs := hvs rfl
      split at h3
      · rename_i g q b sz' lo m
        obtain ⟨rfl,h3⟩ := h3
        split at h3
        · rename_i ob hob
          obtain ⟨hb,hobs,hm,hK⟩ := h3
          have hvs' : RdC w p (a.eval s) (.ref g q b sz' lo m) := hvs
          obtain ⟨O,hO,_⟩ := hR1.ob hob
          have hrow : ∀ e ∈ ob.es,e.length = ob.sz := (lies_ob hO).1
          have hyl := hsrc.1
          have hpos : ∀ cnt,cnt = min m ys.length → (ob.es.take lo ++ ys.take m ++ ob.es.drop (lo + cnt)).length = ob.es.length := by
            intro cnt hc
            simp only [List.length_append,List.length_take,List.length_drop]
            omega
          by_cases h0 : min m ys.length = 0
          · -- nothing is copied
            have hes : ob.es.take lo ++ ys.take m ++ ob.es.drop (lo + min m ys.length) = ob.es := by
              have : ys.take m = [] := by
                apply List.eq_nil_of_length_eq_zero
                rw [List.length_take];exact h0
              rw [this,h0,List.append_nil,Nat.add_zero,List.take_append_drop]
            rw [hes,h0] at hK
            obtain ⟨O1,pre,post,eow,hO1,hupd⟩ := rel_updAt hR1 Free.nil hob
            have hm' := (obAt_ob hob)
            obtain ⟨v0,o00,p1,_,_⟩ := hm'
            have hnod := hR1.nod _ _ (Env.mem_of_get p1)
            rw [eow] at hnod
            have hR2 := hupd w ob.es O1 (Chg.refl _ _) rfl hO1 ((List.nodup_append.1 (List.nodup_append.1 hnod).1).2.1) (fun b hb => ⟨.inl hb,(hR1.fresh _ _ (Env.mem_of_get p1) b (by rw [eow];simp [hb])).1⟩)
            have hrun : (Builtin.copy_ #[T,T2] o.type #[a.eval s,a.eval x]).run P w = .ok (.int .i64 0) w := by
              obtain ⟨xa,cap,hu1,_,_⟩ := RdS_ref hvs
              have hsx : ∃ y cy,a.eval x = .slice y ys.length cy := by
                rcases hsrc.2 with ⟨rfl,_,c,hu⟩|⟨ad,c,news,hu,_⟩
                · exact ⟨_,_,hu⟩
                · exact ⟨_,_,hu⟩
              obtain ⟨y,cy,hu2⟩ := hsx
              have h0' : Nat.min ys.length m = 0 := by rw [Nat.min_comm] at h0;exact h0
              have hfc : (Builtin.firstCells sz' 0 (.slice y ys.length cy)).run P w = .ok #[] w := by
                cases y with
                | none => simp [Builtin.firstCells]
                | some ad => simpa [Builtin.firstCells] using run_loadCells_list (P := P) w ad [] (by simp)
              rw [hu1,hu2]
              simp only [Builtin.copy_,List.getElem?_toArray,List.getElem?_cons_zero,List.getElem?_cons_succ,Sem.run_bind,run_underlying hu,Result.andThen_ok,Builtin.lenOf,Sem.run_pure,run_szOf hsz,h0',hfc]
              cases xa with
              | none => rfl
              | some xa => simp [storeCells,goInt]
            refine wp_value (exec_copy ho hc ha ht a.eval hrun) ?_
            rw [hd]
            exact hn _ _ _ p _ hK (rel_set hR2 hdn (RdC.im _ rfl))
          · -- some rows
            generalize hcnt : min m ys.length = cnt at h0 hK hpos
            have hy0 : ys ≠ [] := by intro h;rw [h] at hcnt;simp at hcnt;omega
            rcases hsrc.2 with ⟨h,_⟩|⟨ad,cc,news,hu2,hnews,hcell⟩
            · exact absurd h hy0
            · have hyt : ys.take m = ys.take cnt := by
                rw [← hcnt]
                rcases Nat.le_total m ys.length with h|h
                · rw [Nat.min_eq_left h]
                · rw [Nat.min_eq_right h,List.take_of_length_le h,List.take_of_length_le (Nat.le_refl _)]
              have hcy : cnt ≤ ys.length := by omega
              have hfl : (ys.take cnt).flatten = ys.flatten.take (cnt * sz') := flatten_take (by rw [← hobs] at hyl ⊢;exact hyl) cnt hcy
              have hvals : RdO w p (news.take (cnt * sz')) (ys.take cnt).flatten [] := by
                rw [hfl]
                obtain ⟨A,B,e1,h1,_⟩ := hnews.split (cnt * sz')
                have : A = [] := by cases A with|nil => rfl|cons => simp at e1
                rw [this] at h1;exact h1
              have hcl : (ys.take cnt).flatten.length = cnt * sz' := by rw [flatten_length (sz := sz') (fun e he => hyl e (List.mem_of_mem_take he)),List.length_take,Nat.min_eq_left hcy]
              have hvl : (news.take (cnt * sz')).length = cnt * sz' := by rw [hvals.length,hcl]
              have hlo : lo + cnt ≤ ob.es.length := by omega
              obtain ⟨cur,ow',c1,c2,hR2⟩ := rel_write hR1 Free.nil hob (off := lo * ob.sz) (es' := ob.es.take lo ++ ys.take m ++ ob.es.drop (lo + cnt)) hvals (by
                  rw [hcl,← hobs,← Nat.add_mul];exact Nat.mul_le_mul_right _ hlo) (by intro h;rw [h] at hlo;simp at hlo;omega) (hpos cnt rfl)
                (by
                  intro x hx
                  simp only [List.mem_append] at hx
                  rcases hx with (hx|hx)|hx
                  · exact hrow x (List.mem_of_mem_take hx)
                  · rw [hobs];exact hyl x (List.mem_of_mem_take hx)
                  · exact hrow x (List.mem_of_mem_drop hx))
                (by
                  rw [List.flatten_append,List.flatten_append,hyt]
                  unfold splice
                  have e1 : (ob.es.take lo).flatten = ob.es.flatten.take (lo * ob.sz) := flatten_take hrow lo (by omega)
                  have e2 : (ob.es.drop (lo + cnt)).flatten = ob.es.flatten.drop (lo * ob.sz + (ys.take cnt).flatten.length) := by
                    have h5 : ob.es.flatten = (ob.es.take (lo + cnt)).flatten ++ (ob.es.drop (lo + cnt)).flatten := by rw [← List.flatten_append,List.take_append_drop]
                    have h6 : (ob.es.take (lo + cnt)).flatten.length = lo * ob.sz + (ys.take cnt).flatten.length := by
                      rw [flatten_length (sz := ob.sz) (fun e he => hrow e (List.mem_of_mem_take he)),List.length_take,Nat.min_eq_left hlo,hcl,← hobs,Nat.add_mul]
                    conv => rhs;rw [h5,← h6,List.drop_left]
                  rw [e1,e2])
              have hform : ∃ cap',a.eval s = .slice (some ⟨blkNo ob.b,lo * ob.sz,none⟩) m cap' := by
                rw [hb]
                generalize a.eval s = u at hvs'
                cases hvs' with
                | refN => simp at hcnt;omega
                | ref _ _ k cap _ _ _ oo hoo hcap =>
                  rw [hobs,hoo.1 (by omega)]
                  exact ⟨_,rfl⟩
              obtain ⟨cap',hu1⟩ := hform
              have hcnt' : Nat.min ys.length m = cnt := by rw [← hcnt];exact Nat.min_comm _ _
              have hload : (Builtin.firstCells sz' cnt (.slice (some ad) ys.length cc)).run P w = .ok (news.take (cnt * sz')).toArray w := by
                have := run_loadCells_list (P := P) w ad (news.take (cnt * sz')) (fun j v hj => hcell j v (by
                  rw [List.getElem?_take] at hj
                  split at hj
                  · exact hj
                  · cases hj))
                rw [hvl] at this
                exact this
              have hst := run_storeCells_at P (blkNo ob.b) (lo * ob.sz) ob.e (news.take (cnt * sz')) 0 cur w c1 (by rw [hvl];rw [hcl] at c2;omega) hvals.oneCell
              simp only [Nat.add_zero] at hst
              have hrun : (Builtin.copy_ #[T,T2] o.type #[a.eval s,a.eval x]).run P w = .ok (.int .i64 (cnt : Int)) (w.setRow (blkNo ob.b) (cur.toList.take (lo * ob.sz) ++ news.take (cnt * sz') ++ cur.toList.drop (lo * ob.sz + (news.take (cnt * sz')).length)).toArray) := by
                rw [hu1,hu2]
                simp only [Builtin.copy_,List.getElem?_toArray,List.getElem?_cons_zero,List.getElem?_cons_succ,Sem.run_bind,run_underlying hu,Result.andThen_ok,Builtin.lenOf,Sem.run_pure,run_szOf hsz,hcnt',hload]
                simp only [hst,Result.andThen_ok,goInt]
              refine wp_value (exec_copy ho hc ha ht a.eval hrun) ?_
              rw [hd]
              exact hn _ _ _ p _ hK (rel_set hR2 hdn (RdC.im _ rfl))
        · exact h3.elim
      · rename_i g q k sz' i j s' m
        obtain ⟨rfl,h3⟩ := h3
        split at h3
        · rename_i ob hob
          obtain ⟨hb,hobs,hi,hj,hml,hm0,hK⟩ := h3
          have hvs' : RdC w p (a.eval s) (.view g q k sz' i j s' m) := hvs
          obtain ⟨O,hO,_⟩ := hR1.ob hob
          have hrow : ∀ e ∈ ob.es,e.length = ob.sz := (lies_ob hO).1
          have hyl := hsrc.1
          have he : ob.es[i]? = some (ob.es.getD i []) := by rw [List.getD_eq_getElem?_getD,List.getElem?_eq_getElem hi];rfl
          have hrl : (ob.es.getD i []).length = ob.sz := hrow _ (List.mem_of_getElem? he)
          have hy0 : ys ≠ [] := by intro h;rw [h] at hml;simp at hml;omega
          rcases hsrc.2 with ⟨h,_⟩|⟨ad,cc,news,hu2,hnews,hcell⟩
          · exact absurd h hy0
          · have hcl : ys.flatten.length = m * s' := by rw [flatten_length (sz := s') hyl,hml]
            have hvl : news.length = m * s' := by rw [hnews.length,hcl]
            have hin : i * ob.sz + j + m * s' ≤ ob.es.length * ob.sz := by
              have : (i + 1) * ob.sz ≤ ob.es.length * ob.sz := Nat.mul_le_mul_right _ hi
              rw [Nat.succ_mul] at this
              omega
            obtain ⟨cur,ow',c1,c2,hR2⟩ := rel_write hR1 Free.nil hob (off := i * ob.sz + j) (es' := ob.es.set i (splice (ob.es.getD i []) j ys.flatten)) hnews (by rw [hcl];exact hin) (by intro h;rw [h] at hi;simp at hi) (by simp)
              (by
                intro x hx
                rcases List.mem_or_eq_of_mem_set hx with hx|rfl
                · exact hrow x hx
                · rw [splice_length (by rw [hcl,hrl,hobs];exact hj),hrl])
              (flatten_splice hrow i _ j _ he (by rw [hcl,hobs];exact hj))
            have hform : ∃ cap',a.eval s = .slice (some ⟨blkNo ob.b,i * ob.sz + j,none⟩) m cap' := by
              rw [hb,hobs]
              generalize a.eval s = u at hvs'
              cases hvs' with
              | view _ _ _ _ _ _ _ _ cap hc => exact ⟨_,rfl⟩
            obtain ⟨cap',hu1⟩ := hform
            have hcnt' : Nat.min ys.length m = m := by rw [hml];exact Nat.min_self m
            have hload : (Builtin.firstCells s' m (.slice (some ad) ys.length cc)).run P w = .ok news.toArray w := by
              have := run_loadCells_list (P := P) w ad news hcell
              rw [hvl] at this
              exact this
            have hst := run_storeCells_at P (blkNo ob.b) (i * ob.sz + j) ob.e news 0 cur w c1 (by rw [hvl];rw [hcl] at c2;omega) hnews.oneCell
            simp only [Nat.add_zero] at hst
            have hrun : (Builtin.copy_ #[T,T2] o.type #[a.eval s,a.eval x]).run P w = .ok (.int .i64 (m : Int)) (w.setRow (blkNo ob.b) (cur.toList.take (i * ob.sz + j) ++ news ++ cur.toList.drop (i * ob.sz + j + news.length)).toArray) := by
              rw [hu1,hu2]
              simp only [Builtin.copy_,List.getElem?_toArray,List.getElem?_cons_zero,List.getElem?_cons_succ,Sem.run_bind,run_underlying hu,Result.andThen_ok,Builtin.lenOf,Sem.run_pure,run_szOf hsz,hcnt',hload]
              simp only [hst,Result.andThen_ok,goInt]
            refine wp_value (exec_copy ho hc ha ht a.eval hrun) ?_
            rw [hd]
            exact hn _ _ _ p _ hK (rel_set hR2 hdn (RdC.im _ rfl))
        · exact h3.elim
      · exact h3.elim
    · exact h.elim
  · exact h.elim

theorem makeMap_sound (hR : Rel n p0 F w0 S a w p ow) {o : Oper} {T d : Nat} (ho : o.op = .makeMap T none) (hd : o.dst = some d) {K : Env → Prop} (h : makeMapK n S d K) {next : Act → World → Prop} (hn : GoesG n p0 F w0 w K next) : o.wp P a w next Q := by
  obtain ⟨hdn,hK⟩ := h
  have hrun : (execOp a.eval o).run P w = .ok (.value (.map (some w.heap.size))) (w.alloc (.map #[] 0)) := by
    simp [execOp,ho,Instr.makeMap]
  refine wp_value hrun ?_
  rw [hd]
  obtain ⟨ow1,hR1⟩ := rel_new1 hR Free.nil (g := nm d) (v := .mapo w.heap.size []) (.map #[] 0) ⟨⟨#[],0,heap_alloc_new w _,rfl⟩,rfl⟩
  exact hn _ _ _ p _ (below_new _ _) (hK _) (rel_set hR1 hdn (RdC.mref (nm d) w.heap.size))

theorem run_setMap {r : Nat} {o' : Obj} {w : World} {es : Array MapEntry} {cl : Nat} (hb : w.heap[r]? = some (.map es cl)) : (setObj r o').run P w = .ok () { w with heap := w.heap.setIfInBounds r o' } := by
  simp [setObj,Sem.run,hb]

theorem mapUpd_sound (hR : Rel n p0 F w0 S a w p ow) {o : Oper} {T : Nat} {m kx x : Operand} (ho : o.op = .mapUpdate T m kx x) (hd : o.dst = none) {K : Env → Prop} (h : mapUpdK P S T m kx x K) {next : Act → World → Prop} (hn : Goes n p0 F w0 K next) : o.wp P a w next Q := by
  unfold mapUpdK at h
  obtain ⟨vk,h1,hvk⟩ := evK_sound hR h
  clear h
  split at h1
  · rename_i s
    obtain ⟨vv,h2,hvv⟩ := evK_sound hR h1
    clear h1
    split at h2
    · rename_i v
      obtain ⟨vm,h3,hvm⟩ := evK_sound hR h2
      clear h2
      split at h3
      · rename_i g k
        split at h3
        · rename_i kt et k' l ht hg
          obtain ⟨rfl,hkt,hf,hK⟩ := h3
          obtain ⟨⟨es,cl,q1,q2⟩,q3⟩ := hR.get hg
          have hm : a.eval m = .map (some k') := by
            have h' : RdC w p (a.eval m) (.mref g k') := hvm rfl
            generalize a.eval m = u at h'
            cases h';rfl
          obtain ⟨r,f1,f2⟩ := findNow_ok l es.toList s 0 q2
          rw [hf] at f2
          subst f2
          have hfk : (Instr.findKey kt (.string s) es.toList).run P w = .ok none w := by
            simp [Instr.findKey,run_underlying hkt,f1]
          have hck : (Instr.checkKey false 10000 kt (.string s)).run P w = .ok () w := run_key_str hkt false 9999 s w
          let w' : World := { w with heap := w.heap.setIfInBounds k' (.map (es.push { key := .string s,val := .int .i64 v,born := cl }) (cl + 1)) }
          have hrun : (execOp a.eval o).run P w = .ok .skip w' := by
            simp only [execOp,ho,hm,RdS_im (hvk rfl),RdS_im (hvv rfl),Instr.mapUpdate,Sem.run_bind,run_underlying ht,Result.andThen_ok,run_getMap q1,hck,hfk,run_setMap q1,Sem.run_pure]
            rfl
          unfold Oper.wp
          rw [hrun]
          simp only [Oper.upon,hd,Act.put]
          have hlt := (Array.getElem?_eq_some_iff.1 q1).1
          refine hn _ _ _ p _ hK (rel_turn hR (w' := w') (O := [k']) ⟨_,hg⟩ ⟨rfl,rfl,rfl,by simp [w'],?_⟩ (by simp) ?_ ⟨⟨es.push { key := .string s,val := .int .i64 v,born := cl },cl + 1,by simp [w',hlt],?_⟩,rfl⟩)
          · intro b hb hnb
            have : k' ≠ b := fun h => hnb (by rw [q3];simp [h])
            simp [w',Array.getElem?_setIfInBounds_ne this]
          · intro b hb
            simp only [List.mem_singleton] at hb
            subst hb
            exact ⟨.inl (by rw [q3];simp),by simpa [w'] using hlt⟩
          · unfold mEntries at q2 ⊢
            simp [q2]
        · exact h3.elim
      · exact h3.elim
    · exact h2.elim
  · exact h1.elim

theorem bytes_sound (hR : Rel n p0 F w0 S a w p ow) {o : Oper} {src dst : TypeId} {x : Operand} {d : Nat} {s : ByteArray} (ho : o.op = .convert src dst x) (hd : o.dst = some d) (hx : a.eval x = .string s) {K : Env → Prop} (h : bytesK P n S src dst s d K) {next : Act → World → Prop} (hn : GoesG n p0 F w0 w K next) : o.wp P a w next Q := by
  obtain ⟨hs,hdt,hdn,hK⟩ := h
  split at hdt
  · rename_i e hde
    have hr := run_bytes_of_string (P := P) w src dst e s hs hde hdt
    generalize hcap : grownCap w s.size 0 e = cap at hr
    have hge : s.size ≤ cap := by rw [← hcap];exact grownCap_ge w s.size 0 e
    generalize hfr : ((bytesRow s cap).size,(bytesRow s cap).size + 1) = fr at hr
    have hrun : (execOp a.eval o).run P w = .ok (.value (.slice (some ⟨w.heap.size,0,none⟩) s.size cap)) (w.drew.alloc (.cells (bytesRow s cap) e fr)) := by
      simp only [execOp,ho,hx,Sem.run_bind,hr,Result.andThen_ok,Sem.run_pure]
    refine wp_value hrun ?_
    rw [hd]
    let w' := w.drew.alloc (.cells (bytesRow s cap) e fr)
    have hbel : Below w.heap.size w w' := ((Below.refl _ w).drew).alloc (Nat.le_refl _) _
    have hR1 := rel_world hR (Chg.of_below hbel)
    let p' : Nat → Prop := fun b => p b ∨ b = w.heap.size
    have hsz : w'.heap.size = w.heap.size + 1 := by simp [w']
    have hR2 : Rel n p0 F w0 S a w' p' ow := by
      refine rel_more hR1 (fun _ h => .inl h) ?_ ?_ ?_
      · rintro b (h|h)
        · exact hR1.plt b h
        · omega
      · rintro b (h|h)
        · exact hR.pnew b h
        · exact .inr (.inr (by have := hR.chg.size;omega))
      · rintro d' v' hm b hb (h|h)
        · exact (hR.fresh _ _ hm b hb).2.1 h
        · have := (hR.fresh _ _ hm b hb).1;omega
    refine hn _ _ _ p' _ hbel hK (rel_set hR2 hdn ?_)
    have hlen : (byteRows s).length = s.size := by simp [byteRows]
    refine RdC.sl ⟨w.heap.size,0,none⟩ s.size cap 1 (byteRows s) (fun i _ => .int .u8 ((s.data.toList.getD i 0).toNat)) hlen.symm hge ?_ (fun _ => .inr rfl) ?_ ?_
    · intro x hx;simp only [byteRows,List.mem_map] at hx;obtain ⟨_,_,rfl⟩ := hx;rfl
    · intro i x j hi hj
      have hj0 : j = 0 := by omega
      subst hj0
      rw [addr_add_zero,Nat.mul_one,Nat.add_zero]
      have hil : i < s.data.toList.length := by
        have := (List.getElem?_eq_some_iff.1 hi).1
        simpa [byteRows] using this
      show (w.drew.alloc _).cell? ⟨w.drew.heap.size,i,none⟩ = _
      rw [World.cell?_alloc_mark]
      have : i < s.data.size := by simpa using hil
      simp only [bytesRow]
      rw [Array.getElem?_append_left (by simpa using this)]
      simp only [Array.getElem?_map,List.getD_eq_getElem?_getD,Array.getElem?_toList,Array.getElem?_eq_getElem this,Option.map_some,Option.getD_some]
    · intro i x j c hi hj
      simp only [byteRows,List.getElem?_map,Option.map_eq_some_iff] at hi
      obtain ⟨b,hb,rfl⟩ := hi
      cases j with
      | zero =>
        simp at hj;subst hj
        rw [List.getD_eq_getElem?_getD,hb]
        exact .im _ rfl
      | succ j => simp at hj
  · exact hdt.elim

end
end Go.Hs
